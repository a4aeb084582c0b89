/- What the printed functions of layer 3 come to, 2: numbers as fields of a sector. -/
import Derived.Test.YtakljpcmbpaeaaaGreatPaxosKeepsM39
import Derived.Test.YtakljpcmbpaeaaaGreatPaxosKeepsM34
import Derived.Test.YtakljpcmbpaeaaaGreatPaxosKeepsM01
set_option linter.unusedSimpArgs false
set_option linter.unusedVariables false
namespace Go.Proofs.YtakljpcmbpaeaaaGreat
open Go.RowKit

theorem putR1 (b : Bs) (w n : Int) : putR b w [n] = if fitsB n w = true then (b ++ leBytes w.toNat n.toNat, 0) else ([], 2) := by
  unfold putR putS
  by_cases h : fitsB n w = true
  · have hf := of_decide_eq_true h
    rw [if_pos h, if_pos ⟨⟨hf.1, hf.2.1⟩, by simpa using h⟩]
    simp [putAll]
  · rw [if_neg h, if_neg fun q => h (by simpa using q.2)]
theorem app_data (a b : ByteArray) : (a ++ b).data.toList = a.data.toList ++ b.data.toList := by simp
theorem mk_data (b : Bs) : (mkS b).data.toList = b := rfl
theorem mk_size (b : Bs) : (mkS b).size = b.length := by rw [← bytes_length, mk_data]
theorem fieldsB_at {ws l : List Int} {i : Nat} {b : Bs} (hw : i < ws.length) (hl : i < l.length) (h : fieldsB [] (ws.take i) (l.take i) = some b) :
    fieldsB [] (ws.take (i + 1)) (l.take (i + 1)) = if fitsB l[i] ws[i] = true ∧ (b ++ leBytes ws[i].toNat l[i].toNat).length ≤ 505 then some (b ++ leBytes ws[i].toNat l[i].toNat) else none := by
  rw [List.take_succ_eq_append_getElem hw, List.take_succ_eq_append_getElem hl, fieldsB_snoc _ _ _ _ _ (by simp; omega), h]
  rfl
theorem fieldsB_out {ws l : List Int} {i : Nat} (hlen : ws.length = l.length) (h : fieldsB [] (ws.take i) (l.take i) = none) : fieldsB [] ws l = none := by
  have := fieldsB_none [] (ws.take i) (l.take i) (ws.drop i) (l.drop i) (by simp [hlen]) h
  rwa [List.take_append_drop, List.take_append_drop] at this
theorem make_eq {L : Nat} {k : Int} {rest : ByteArray} {ws l : List Int} (hk : k ≤ 127) (hL : l.length < L) (hl : l.length ≤ 1000000) (hr : rest.size ≤ 1000000) :
    yJr L k rest (ws.map inV) (l.map inV) = some (mkS (makeR k rest.data.toList ws l).1, (makeR k rest.data.toList ws l).2, ()) := by
  unfold yJr yMN makeR
  rw [List.length_map, List.length_map]
  by_cases hlen : ¬ ws.length = l.length
  · rw [bif_t (bne_iff_ne.2 (by omega)), fieldsB_len _ _ _ hlen]; rfl
  replace hlen : ws.length = l.length := Decidable.not_not.1 hlen
  rw [bif_f (by rw [hlen]; exact bne_self_eq_false _)]
  have hrun := loop2_run (α := ByteArray × Int × Unit) (F := yDR (num_Put L)) (fun q => ∃ (i : Nat) (b : Bs), i ≤ l.length ∧ fieldsB [] (ws.take i) (l.take i) = some b ∧ q = (rest, ws.map inV, (b.map byV, 0, k, ()), l.map inV, (l.length : Int), (i : Int), ())) (fun q => l.length - q.2.2.2.2.2.1.toNat)
    (fun a => ∃ b, fieldsB [] ws l = some b ∧ a = (rest, (b.map byV, 0, k, ()), ())) (fun a => fieldsB [] ws l = none ∧ a = (noS, 2, ()))
    (fun q hq => by
      obtain ⟨i, b, hi, hf, rfl⟩ := hq
      have hbl := fieldsB_length _ _ _ _ hf (by simp)
      by_cases hlt : i < l.length
      · have hstep := fieldsB_at (by omega) hlt hf
        have hp : num_Put L (b.map byV) ws[i] ([[V.int .i64 l[i]]]) = some ((putR b ws[i] [l[i]]).1.map byV, (putR b ws[i] [l[i]]).2, ()) := nPut_eq (l := [l[i]]) _ (by simp; omega)
        rw [putR1] at hp
        have pre : ∀ kn ka kb, yDR (num_Put L) (rest, ws.map inV, (b.map byV, 0, k, ()), l.map inV, (l.length : Int), (i : Int), ()) kn ka kb = (bindO (num_Put L (b.map byV) ws[i] ([[V.int .i64 l[i]]])) fun r1 =>
            bif r1.2.1 != 0 then kb (noS, 2, ()) else bif (0 : Int) != 0 then kb (noS, 2, ()) else bif decide (505 < (r1.1.length : Int)) then kb (noS, 2, ()) else
            gW r1.1 r1.1.length <| kn (rest, ws.map inV, (r1.1, 0, k, ()), l.map inV, (l.length : Int), w64 ((i : Int) + 1), ()) : Option (ByteArray × Int × Unit)) := fun kn ka kb => by
          unfold yDR
          dsimp only
          rw [bif_t (decide_eq_true (by omega)), gI_in (by omega) (by omega), gI_in (by omega) (by omega), gF_t (by rw [List.length_map]; omega) (by rw [List.length_map]; omega) (nm_by _), take_all _ rfl, Int.toNat_natCast, aI_in hlt, aI_in (by omega)]
        by_cases hfit : fitsB l[i] ws[i] = true
        · rw [if_pos hfit] at hp
          by_cases h5 : (b ++ leBytes ws[i].toNat l[i].toNat).length ≤ 505
          · rw [if_pos ⟨hfit, h5⟩] at hstep
            refine .inl ⟨_, ⟨i + 1, _, hlt, hstep, rfl⟩, by dsimp only; omega, fun kn ka kb => ?_⟩
            rw [pre, hp, bindO_s]
            dsimp only
            rw [show ((0 : Int) != 0) = false from rfl, cond_false, cond_false, bif_f (decide_eq_false (by rw [List.length_map]; omega)), gW_t rfl (nm_by _), w64_t (by omega) (by omega)]
            rfl
          · rw [if_neg fun h => h5 h.2] at hstep
            refine .inr (.inr ⟨_, ⟨fieldsB_out hlen hstep, rfl⟩, fun kn ka kb => ?_⟩)
            rw [pre, hp, bindO_s]
            dsimp only
            rw [show ((0 : Int) != 0) = false from rfl, cond_false, cond_false, bif_t (decide_eq_true (by rw [List.length_map]; omega))]
        · rw [if_neg hfit] at hp
          rw [if_neg fun h => hfit h.1] at hstep
          refine .inr (.inr ⟨_, ⟨fieldsB_out hlen hstep, rfl⟩, fun kn ka kb => ?_⟩)
          rw [pre, hp, bindO_s]
          rfl
      · obtain rfl : i = l.length := by omega
        refine .inr (.inl ⟨_, ⟨b, by rw [List.take_length, ← hlen, List.take_length] at hf; exact hf, rfl⟩, fun kn ka kb => ?_⟩)
        unfold yDR
        dsimp only
        rw [bif_f (decide_eq_false (by omega)), gW_t rfl (nm_by _)])
    L (rest, ws.map inV, ([], 0, k, ()), l.map inV, (l.length : Int), 0, ()) ⟨0, [], Nat.zero_le _, rfl, rfl⟩ (by dsimp only; omega)
  rcases hrun with ⟨a, ⟨b, hb, rfl⟩, hrun⟩ | ⟨a, ⟨hb, rfl⟩, hrun⟩
  · have hbl := fieldsB_length _ _ _ _ hb (by simp)
    rw [hrun, hb]
    dsimp only
    rw [gd_t (by rw [Nat.zero_add]; exact Nat.ble_eq_true_of_le (Nat.le_refl _)), take_all _ rfl, gd_t (bytesOf_is _), bytesS_by, mk_size, gd_t (decide_eq_true (by omega)), gW_t rfl (nm_by _)]
    obtain ⟨y, hy⟩ := sealed_eq (L := L) (k := k) (rows := b.map byV) (s := mkS b ++ rest) hk (nm_by _)
    rw [hy, bindO_s, app_data, mk_data]
  · rw [hrun, hb]; rfl
theorem rMake_eq {L : Nat} {k : Int} {rest : ByteArray} {ws l : List Int} (hk : k ≤ 127) (hL : l.length < L) (hL2 : 1000 < L) (hl : l.length ≤ 1000000) (hr : rest.size ≤ 1000000) :
    yGq L k rest (ws.map inV) (l.map inV) = some (mkS (makeR k rest.data.toList ws l).1, (makeR k rest.data.toList ws l).2, ()) := by
  unfold yGq yLI makeR
  rw [List.length_map, List.length_map]
  by_cases hlen : ¬ ws.length = l.length
  · rw [bif_t (bne_iff_ne.2 (by omega)), fieldsB_len _ _ _ hlen]; rfl
  replace hlen : ws.length = l.length := Decidable.not_not.1 hlen
  rw [bif_f (by rw [hlen]; exact bne_self_eq_false _)]
  have hrun := loop2_run (α := ByteArray × Int × Unit) (F := yCp (yBZ L)) (fun q => ∃ (i : Nat) (b : Bs), i ≤ l.length ∧ fieldsB [] (ws.take i) (l.take i) = some b ∧ q = (k, rest, ws.map inV, l.map inV, b.map byV, (i : Int), ())) (fun q => l.length - q.2.2.2.2.2.1.toNat)
    (fun a => ∃ b, fieldsB [] ws l = some b ∧ a = (k, rest, b.map byV, ())) (fun a => fieldsB [] ws l = none ∧ a = (noS, 2, ()))
    (fun q hq => by
      obtain ⟨i, b, hi, hf, rfl⟩ := hq
      have hbl := fieldsB_length _ _ _ _ hf (by simp)
      by_cases hlt : i < l.length
      · have hstep := fieldsB_at (by omega) hlt hf
        have hp : yBZ L (b.map byV) ws[i] ([[V.int .i64 l[i]]]) = some ((putR b ws[i] [l[i]]).1.map byV, (putR b ws[i] [l[i]]).2, ()) := rPut_eq (l := [l[i]]) (by omega) _ (by simp; omega) (by simp; omega)
        rw [putR1] at hp
        have pre : ∀ kn ka kb, yCp (yBZ L) (k, rest, ws.map inV, l.map inV, b.map byV, (i : Int), ()) kn ka kb = (bindO (yBZ L (b.map byV) ws[i] ([[V.int .i64 l[i]]])) fun r1 =>
            bif r1.2.1 != 0 then kb (noS, 2, ()) else bif decide (505 < (r1.1.length : Int)) then kb (noS, 2, ()) else
            gF r1.1 (0 + r1.1.length) <| kn (k, rest, ws.map inV, l.map inV, r1.1.take r1.1.length, w64 ((i : Int) + 1), ()) : Option (ByteArray × Int × Unit)) := fun kn ka kb => by
          unfold yCp
          dsimp only
          rw [bif_t (decide_eq_true (by rw [List.length_map]; omega)), gI_in (by omega) (by omega), gI_in (by omega) (by omega), Int.toNat_natCast, aI_in hlt, aI_in (by omega)]
        by_cases hfit : fitsB l[i] ws[i] = true
        · rw [if_pos hfit] at hp
          by_cases h5 : (b ++ leBytes ws[i].toNat l[i].toNat).length ≤ 505
          · rw [if_pos ⟨hfit, h5⟩] at hstep
            refine .inl ⟨_, ⟨i + 1, _, hlt, hstep, rfl⟩, by dsimp only; omega, fun kn ka kb => ?_⟩
            rw [pre, hp, bindO_s]
            dsimp only
            rw [show ((0 : Int) != 0) = false from rfl, cond_false, bif_f (decide_eq_false (by rw [List.length_map]; omega)), gF_t (by omega) (by rw [List.length_map]; omega) (nm_by _), take_all _ rfl, w64_t (by omega) (by omega)]
            rfl
          · rw [if_neg fun h => h5 h.2] at hstep
            refine .inr (.inr ⟨_, ⟨fieldsB_out hlen hstep, rfl⟩, fun kn ka kb => ?_⟩)
            rw [pre, hp, bindO_s]
            dsimp only
            rw [show ((0 : Int) != 0) = false from rfl, cond_false, bif_t (decide_eq_true (by rw [List.length_map]; omega))]
        · rw [if_neg hfit] at hp
          rw [if_neg fun h => hfit h.1] at hstep
          refine .inr (.inr ⟨_, ⟨fieldsB_out hlen hstep, rfl⟩, fun kn ka kb => ?_⟩)
          rw [pre, hp, bindO_s]
          rfl
      · obtain rfl : i = l.length := by omega
        refine .inr (.inl ⟨_, ⟨b, by rw [List.take_length, ← hlen, List.take_length] at hf; exact hf, rfl⟩, fun kn ka kb => ?_⟩)
        unfold yCp
        dsimp only
        rw [bif_f (decide_eq_false (by rw [List.length_map]; omega))])
    L (k, rest, ws.map inV, l.map inV, [], 0, ()) ⟨0, [], Nat.zero_le _, rfl, rfl⟩ (by dsimp only; omega)
  rcases hrun with ⟨a, ⟨b, hb, rfl⟩, hrun⟩ | ⟨a, ⟨hb, rfl⟩, hrun⟩
  · have hbl := fieldsB_length _ _ _ _ hb (by simp)
    rw [hrun, hb]
    dsimp only
    rw [gd_t (bytesOf_is _), bytesS_by, mk_size, gd_t (decide_eq_true (by omega)), rSeal_eq hL2 hk, bindO_s, app_data, mk_data]
  · rw [hrun, hb]; rfl
theorem takeF_at {s : Bs} {ws : List Int} {i : Nat} {r : List Int × Bs} (hw : i < ws.length) (h : takeF s (ws.take i) = some r) :
    takeF s (ws.take (i + 1)) = if (getS r.2 0 ws[i]).2 = 0 then some (r.1 ++ [(getS r.2 0 ws[i]).1], r.2.drop ws[i].toNat) else none := by
  rw [List.take_succ_eq_append_getElem hw, takeF_snoc, h]
  rfl
theorem takeF_out {s : Bs} {ws : List Int} {i : Nat} (h : takeF s (ws.take i) = none) : takeF s ws = none := by
  have := takeF_none s (ws.take i) (ws.drop i) h
  rwa [List.take_append_drop] at this
theorem extract_end (s : ByteArray) (k : Nat) : s.extract k s.size = mkS (s.data.toList.drop k) := by
  rw [extract_mk]
  congr 1
  exact List.take_of_length_le (by rw [List.length_drop, bytes_length]; omega)
theorem ofR_two (k : Int) (s : Bs) : (ofR k s).2 = 0 ∨ ofR k s = ([], 30) := by
  unfold ofR
  split
  · exact .inl rfl
  · exact .inr rfl
theorem openR_le (s : Bs) : (openR s).2.1.length ≤ s.length := by
  unfold openR
  split
  · simp only [List.length_take, List.length_drop]; omega
  · exact Nat.zero_le _
theorem ofR_le (k : Int) (s : Bs) : (ofR k s).1.length ≤ s.length := by
  unfold ofR
  split
  · exact openR_le s
  · exact Nat.zero_le _
theorem fields_eq {L : Nat} (hL : 10 < L) {s : ByteArray} {ws : List Int} (hs : s.size ≤ 1000000000) (hw : ws.length < L) (hw2 : ws.length ≤ 1000000) (k : Int) :
    yHE L k s (ws.map inV) = some ((fieldsR k s.data.toList ws).1.map inV, mkS (fieldsR k s.data.toList ws).2.1, (fieldsR k s.data.toList ws).2.2, ()) := by
  have hol := ofR_le k s.data.toList
  rw [bytes_length] at hol
  unfold yHE yKj fieldsR
  rw [of_eq hL hs, bindO_s, List.length_map]
  rcases ofR_two k s.data.toList with h0 | h0
  · rw [if_pos h0, h0]
    generalize (ofR k s.data.toList).1 = load at *
    have hrun := loop2_run (α := List (List V) × ByteArray × Int × Unit) (F := yBJ (yBQ L)) (fun q => ∃ (i : Nat) (r : List Int × Bs), i ≤ ws.length ∧ takeF load (ws.take i) = some r ∧ q = (r.1.map inV, mkS r.2, 0, ws.map inV, (ws.length : Int), (i : Int), ())) (fun q => ws.length - q.2.2.2.2.2.1.toNat)
      (fun a => ∃ r, takeF load ws = some r ∧ a = (r.1.map inV, mkS r.2, 0, ())) (fun a => takeF load ws = none ∧ a = ([], noS, 30, ()))
      (fun q hq => by
        obtain ⟨i, r, hi, hf, rfl⟩ := hq
        have hrl := takeF_le _ _ _ hf
        rw [List.length_take, Nat.min_eq_left hi] at hrl
        by_cases hlt : i < ws.length
        · have hstep := takeF_at hlt hf
          have pre : ∀ kn ka kb, yBJ (yBQ L) (r.1.map inV, mkS r.2, 0, ws.map inV, (ws.length : Int), (i : Int), ()) kn ka kb = (bif (getS r.2 0 ws[i]).2 != 0 then kb ([], noS, 30, ()) else
              gd (decide (0 ≤ ws[i])) <| gd (decide (ws[i] ≤ (r.2.length : Int))) <| kn ((r.1 ++ [(getS r.2 0 ws[i]).1]).map inV, mkS (r.2.drop ws[i].toNat), 0, ws.map inV, (ws.length : Int), ((i + 1 : Nat) : Int), ()) : Option (List (List V) × ByteArray × Int × Unit)) := fun kn ka kb => by
            have e : r.1.map inV ++ ([[V.int .i64 (getS r.2 0 ws[i]).1]]) = (r.1 ++ [(getS r.2 0 ws[i]).1]).map inV := by rw [List.map_append]; rfl
            unfold yBJ
            dsimp only
            rw [bif_t (decide_eq_true (by omega)), gI_in (by omega) (by omega), show ((0 : Int) != 0) = false from rfl, cond_false, Int.toNat_natCast, aI_in hlt, num_Get_eq hL (by rw [mk_size]; omega), bindO_s, mk_data, e, gd_t (by rw [Nat.zero_add]; exact Nat.beq_refl _), gM_t (by rw [List.length_map]; omega) (by rw [List.length_map]; omega), gW_t (by simp) (nm_in _), extract_end, mk_data, mk_size, w64_t (by omega) (by omega)]
            rfl
          by_cases hg : (getS r.2 0 ws[i]).2 = 0
          · rw [if_pos hg] at hstep
            have hz := getS_zero hg
            refine .inl ⟨_, ⟨i + 1, _, hlt, hstep, rfl⟩, by dsimp only; omega, fun kn ka kb => ?_⟩
            rw [pre, bif_f (by rw [hg]; rfl), gd_t (decide_eq_true (by omega)), gd_t (decide_eq_true (by omega))]
          · rw [if_neg hg] at hstep
            refine .inr (.inr ⟨_, ⟨takeF_out hstep, rfl⟩, fun kn ka kb => ?_⟩)
            rw [pre, bif_t (bne_iff_ne.2 hg)]
        · obtain rfl : i = ws.length := by omega
          refine .inr (.inl ⟨_, ⟨r, by rwa [List.take_length] at hf, rfl⟩, fun kn ka kb => ?_⟩)
          unfold yBJ
          dsimp only
          rw [bif_f (decide_eq_false (by omega)), gW_t rfl (nm_in _)])
      L ([], mkS load, 0, ws.map inV, (ws.length : Int), 0, ()) ⟨0, ([], load), Nat.zero_le _, rfl, rfl⟩ (by dsimp only; omega)
    rcases hrun with ⟨a, ⟨r, hr, rfl⟩, hrun⟩ | ⟨a, ⟨hr, rfl⟩, hrun⟩
    · rw [hrun, hr]
      dsimp only
      rw [show ((0 : Int) != 0) = false from rfl, cond_false, gW_t rfl (nm_in _)]
    · rw [hrun, hr]
      dsimp only
      rw [gW_t rfl rfl]
      rfl
  · rw [h0, if_neg (by simp)]
    obtain ⟨M, rfl⟩ : ∃ M, L = M + 1 := ⟨L - 1, by omega⟩
    have F : ∀ (s : yDc) (ka : yFP → Option (List (List V) × ByteArray × Int × Unit)) kb, loop2 (yBJ (yBQ (M + 1))) (M + 1) s ka kb = yBJ (yBQ (M + 1)) s (fun s' => loop2 (yBJ (yBQ (M + 1))) M s' ka kb) ka kb := fun _ _ _ => rfl
    rw [F]
    unfold yBJ
    dsimp only
    by_cases h : (0 : Int) < (ws.length : Int)
    · rw [bif_t (decide_eq_true h), gI_in (by omega) (by omega), show ((30 : Int) != 0) = true from rfl, cond_true, gW_t rfl rfl]; rfl
    · rw [bif_f (decide_eq_false h), gW_t rfl rfl]; rfl
theorem getS_at {l : Bs} {a w : Int} (h0 : 0 ≤ a) (h1 : a ≤ l.length) : getS l a w = getS (l.drop a.toNat) 0 w := by
  unfold getS
  rw [List.length_drop]
  by_cases hw : 1 ≤ w ∧ w ≤ 6
  · rw [if_pos hw, if_pos hw]
    by_cases h : a + w ≤ l.length
    · rw [if_pos (show 0 ≤ a ∧ a + w ≤ (l.length : Int) from ⟨h0, h⟩), if_pos (show (0 : Int) ≤ 0 ∧ 0 + w ≤ ((l.length - a.toNat : Nat) : Int) from ⟨by omega, by omega⟩)]; rfl
    · rw [if_neg (show ¬ (0 ≤ a ∧ a + w ≤ (l.length : Int)) from fun q => h q.2), if_neg (show ¬ ((0 : Int) ≤ 0 ∧ 0 + w ≤ ((l.length - a.toNat : Nat) : Int)) from fun q => h (by omega))]
  · rw [if_neg hw, if_neg hw]
theorem rFields_eq {L : Nat} (hL : 1000 < L) {s : ByteArray} {ws : List Int} (hs : s.size ≤ 1000000000) (hw : ws.length < L) (hw2 : ws.length ≤ 1000000) (k : Int) :
    yFs L k s (ws.map inV) = some ((fieldsR k s.data.toList ws).1.map inV, mkS (fieldsR k s.data.toList ws).2.1, (fieldsR k s.data.toList ws).2.2, ()) := by
  have hol := ofR_le k s.data.toList
  rw [bytes_length] at hol
  unfold yFs yJT fieldsR
  rw [rOf_eq hL, bindO_s]
  dsimp only
  rcases ofR_two k s.data.toList with h0 | h0
  · rw [if_pos h0, h0, show ((0 : Int) != 0) = false from rfl, cond_false]
    generalize (ofR k s.data.toList).1 = load at *
    have hrun := loop2_run (α := List (List V) × ByteArray × Int × Unit) (F := yB2 (yBr L)) (fun q => ∃ (i a : Nat) (r : List Int × Bs), i ≤ ws.length ∧ a ≤ load.length ∧ r.2 = load.drop a ∧ takeF load (ws.take i) = some r ∧ q = (ws.map inV, mkS load, r.1.map inV, (a : Int), (i : Int), ())) (fun q => ws.length - q.2.2.2.2.1.toNat)
      (fun z => ∃ (a : Nat) (r : List Int × Bs), a ≤ load.length ∧ r.2 = load.drop a ∧ takeF load ws = some r ∧ z = (mkS load, r.1.map inV, (a : Int), ())) (fun a => takeF load ws = none ∧ a = ([], noS, 30, ()))
      (fun q hq => by
        obtain ⟨i, a, r, hi, ha, hra, hf, rfl⟩ := hq
        have hrl := takeF_le _ _ _ hf
        rw [List.length_take, Nat.min_eq_left hi] at hrl
        by_cases hlt : i < ws.length
        · have hstep := takeF_at hlt hf
          have pre : ∀ kn ka kb, yB2 (yBr L) (ws.map inV, mkS load, r.1.map inV, (a : Int), (i : Int), ()) kn ka kb = (bif (getS r.2 0 ws[i]).2 != 0 then kb ([], noS, 30, ()) else
              kn (ws.map inV, mkS load, (r.1 ++ [(getS r.2 0 ws[i]).1]).map inV, w64 ((a : Int) + ws[i]), ((i + 1 : Nat) : Int), ()) : Option (List (List V) × ByteArray × Int × Unit)) := fun kn ka kb => by
            have e : r.1.map inV ++ ([[V.int .i64 (getS r.2 0 ws[i]).1]]) = (r.1 ++ [(getS r.2 0 ws[i]).1]).map inV := by rw [List.map_append]; rfl
            have eg : getS load (a : Int) ws[i] = getS r.2 0 ws[i] := by rw [getS_at (by omega) (by omega), Int.toNat_natCast, hra]
            unfold yB2
            dsimp only
            rw [bif_t (decide_eq_true (by rw [List.length_map]; omega)), gI_in (by omega) (by omega), Int.toNat_natCast, aI_in hlt, rGet_eq (by omega) (by rw [mk_size]; omega), bindO_s, mk_data, eg, e, gd_t (by rw [Nat.zero_add]; exact Nat.beq_refl _), gM_t (by rw [List.length_map]; omega) (by rw [List.length_map]; omega), gI_in (by omega) (by omega), gW_t (by simp) (nm_in _), w64_t (n := (i : Int) + 1) (by omega) (by omega)]
            rfl
          by_cases hg : (getS r.2 0 ws[i]).2 = 0
          · rw [if_pos hg] at hstep
            have hz := getS_zero hg
            obtain ⟨v, hv⟩ := Int.eq_ofNat_of_zero_le (show 0 ≤ ws[i] by omega)
            have hdl : r.2.length = load.length - a := by rw [hra, List.length_drop]
            refine .inl ⟨_, ⟨i + 1, a + v, _, hlt, by omega, by dsimp only; rw [hra, List.drop_drop, hv]; rfl, hstep, rfl⟩, by dsimp only; omega, fun kn ka kb => ?_⟩
            rw [pre, bif_f (by rw [hg]; rfl), hv, w64_t (by omega) (by omega)]
            rfl
          · rw [if_neg hg] at hstep
            refine .inr (.inr ⟨_, ⟨takeF_out hstep, rfl⟩, fun kn ka kb => ?_⟩)
            rw [pre, bif_t (bne_iff_ne.2 hg)]
        · obtain rfl : i = ws.length := by omega
          refine .inr (.inl ⟨_, ⟨a, r, ha, hra, by rwa [List.take_length] at hf, rfl⟩, fun kn ka kb => ?_⟩)
          unfold yB2
          dsimp only
          rw [bif_f (decide_eq_false (by rw [List.length_map]; omega)), gW_t rfl (nm_in _)])
      L (ws.map inV, mkS load, [], 0, 0, ()) ⟨0, 0, ([], load), Nat.zero_le _, Nat.zero_le _, rfl, rfl, rfl⟩ (by dsimp only; omega)
    rcases hrun with ⟨z, ⟨a, r, ha, hra, hr, rfl⟩, hrun⟩ | ⟨z, ⟨hr, rfl⟩, hrun⟩
    · rw [hrun, hr]
      dsimp only
      rw [gd_t (decide_eq_true (by omega)), gd_t (decide_eq_true (by rw [mk_size]; omega)), gW_t rfl (nm_in _), extract_end, mk_data, Int.toNat_natCast, hra]
    · rw [hrun, hr]
      dsimp only
      rw [gW_t rfl rfl]
      rfl
  · rw [h0, if_neg (by simp)]; rfl
end Go.Proofs.YtakljpcmbpaeaaaGreat

namespace Go.Proofs.YtakljpcmbpaeaaaGreat
open Go.RowKit

def srt : List Int → Bool
  | a :: b :: l => decide (a ≤ b) && srt (b :: l)
  | _ => true
theorem within_go {α : Type} {l : List Int} (hl : l.length ≤ 1000) {ka : Unit → Option α} {kb : Bool × Unit → Option α} : ∀ (m i : Nat), i + 1 ≤ l.length → l.length < m + i + 1 → loop2 yCj m (l.map inV, ((i + 1 : Nat) : Int), ()) ka kb = if srt (l.drop i) = true then ka () else kb (false, ())
  | 0, i, h1, h2 => by omega
  | m + 1, i, h1, h2 => by
    show yCj (l.map inV, ((i + 1 : Nat) : Int), ()) (fun s' => loop2 yCj m s' ka kb) ka kb = _
    unfold yCj
    dsimp only
    by_cases hlt : i + 1 < l.length
    · rw [bif_t (decide_eq_true (by rw [List.length_map]; omega)), show ((i + 1 : Nat) : Int) - 1 = i by omega, w64_t (n := (i : Int)) (by omega) (by omega), gI_in (by omega) (by omega), gI_in (by omega) (by omega), Int.toNat_natCast, Int.toNat_natCast, aI_in hlt, aI_in (by omega), w64_t (by omega) (by omega)]
      have e : l.drop i = l[i] :: l[i + 1] :: l.drop (i + 2) := by rw [List.drop_eq_getElem_cons (by omega), List.drop_eq_getElem_cons hlt]
      by_cases hc : l[i + 1] < l[i]
      · rw [bif_t (decide_eq_true hc), e, if_neg]
        show ¬ (decide (l[i] ≤ l[i + 1]) && _) = true
        rw [decide_eq_false (by omega)]
        simp
      · rw [bif_f (decide_eq_false hc), show ((i + 1 : Nat) : Int) + 1 = ((i + 1 + 1 : Nat) : Int) by omega, within_go hl m (i + 1) (by omega) (by omega), e]
        have : srt (l[i] :: l[i + 1] :: l.drop (i + 2)) = srt (l.drop (i + 1)) := by
          rw [List.drop_eq_getElem_cons hlt]
          show (decide (l[i] ≤ l[i + 1]) && _) = _
          rw [decide_eq_true (by omega), Bool.true_and]
        rw [this]
    · have e : l.drop i = [l[i]] := by rw [List.drop_eq_getElem_cons (by omega), List.drop_eq_nil_of_le (by omega)]
      rw [bif_f (decide_eq_false (by rw [List.length_map]; omega)), e]
      rfl
theorem within_eq {L : Nat} {l : List Int} (h0 : 1 ≤ l.length) (hl : l.length ≤ 1000) (hL : l.length < L) : yFg L (l.map inV) = some (srt l) := by
  unfold yFg yK5
  have := within_go (α := Bool) hl (ka := fun q1 => some true) (kb := fun q2 => some q2.1) L 0 (by omega) (by omega)
  refine this.trans ?_
  rw [List.drop_zero]
  cases srt l <;> rfl
theorem gMay_eq {L : Nat} (hL : 10 < L) {x : yAW} (hw : i64b x.Wait = true) : yGe L x = some (geoOf x).may := by
  obtain ⟨w1, w2⟩ := i64b_d hw
  have W : ∀ l : List Int, 1 ≤ l.length → l.length ≤ 10 → yFg L (l.map inV) = some (srt l) := fun l h1 h2 => within_eq h1 (by omega) (by omega)
  have W3 : ∀ a b c : Int, yFg L ([[V.int .i64 a], [V.int .i64 b], [V.int .i64 c]]) = some (decide (a ≤ b ∧ b ≤ c)) := fun a b c => (W [a, b, c] (by simp) (by simp)).trans (by simp [srt])
  have W4 : ∀ a b c d : Int, yFg L ([[V.int .i64 a], [V.int .i64 b], [V.int .i64 c], [V.int .i64 d]]) = some (decide (a ≤ b ∧ b ≤ c ∧ c ≤ d)) := fun a b c d => (W [a, b, c, d] (by simp) (by simp)).trans (by simp [srt])
  have no : ∀ {p : Prop}, ((geoOf x).OK → p) → ¬ p → (geoOf x).may = false := fun h hp => by
    cases hm : (geoOf x).may with
    | false => rfl
    | true => exact absurd (h (Geo.may_ok hm)) hp
  unfold yGe yNy
  rw [W4, bindO_s]
  by_cases h1 : ¬ (1 ≤ x.Slots ∧ x.Slots ≤ x.Nodes ∧ x.Nodes ≤ 16)
  · rw [decide_eq_false h1, no (fun h => ⟨h.s1, h.s2, h.n2⟩) h1]; rfl
  replace h1 := Decidable.not_not.1 h1
  rw [decide_eq_true h1, cond_true, W3, bindO_s]
  by_cases h2 : ¬ (1 ≤ x.Blocks ∧ x.Blocks ≤ 64)
  · rw [decide_eq_false h2, no (fun h => ⟨h.b1, h.b2⟩) h2]; rfl
  replace h2 := Decidable.not_not.1 h2
  rw [decide_eq_true h2, cond_true, W3, bindO_s]
  by_cases h3 : ¬ (1 ≤ x.Per ∧ x.Per ≤ 8)
  · rw [decide_eq_false h3, no (fun h => ⟨h.p1, h.p2⟩) h3]; rfl
  replace h3 := Decidable.not_not.1 h3
  rw [decide_eq_true h3, cond_true, w64_t (n := x.Per + 2) (by omega) (by omega), W3, bindO_s]
  by_cases h4 : ¬ (x.Per + 2 ≤ x.Journal ∧ x.Journal ≤ 64)
  · rw [decide_eq_false h4, no (fun h => ⟨h.j1, h.j2⟩) h4]; rfl
  replace h4 := Decidable.not_not.1 h4
  rw [decide_eq_true h4, cond_true, w64_t (n := 8 * x.Slots) (by omega) (by omega), W3, bindO_s]
  by_cases h5 : ¬ (8 * x.Slots ≤ x.Log ∧ x.Log ≤ 512)
  · rw [decide_eq_false h5, no (fun h => ⟨h.l1, h.l2⟩) h5]; rfl
  replace h5 := Decidable.not_not.1 h5
  rw [decide_eq_true h5, cond_true, W4, bindO_s]
  congr 1
  by_cases hmin : x.Wait = -9223372036854775808
  · rw [no (p := 1 ≤ x.Wait) (fun h => by have h1 : 1 ≤ x.Lease := h.e1; have h2 : x.Lease < x.Wait := h.e2; omega) (by omega), hmin]
    exact decide_eq_false fun q => by
      have : w64 (-9223372036854775808 - 1) = 9223372036854775807 := by decide
      omega
  · rw [w64_t (n := x.Wait - 1) (by omega) (by omega)]
    show decide _ = decide _
    refine decide_eq_decide.2 ⟨fun h => ?_, fun h => ?_⟩
    · show 1 ≤ x.Nodes ∧ x.Nodes ≤ 16 ∧ 1 ≤ x.Slots ∧ x.Slots ≤ x.Nodes ∧ 1 ≤ x.Blocks ∧ x.Blocks ≤ 64 ∧ 1 ≤ x.Per ∧ x.Per ≤ 8 ∧ x.Per + 2 ≤ x.Journal ∧ x.Journal ≤ 64 ∧ 8 * x.Slots ≤ x.Log ∧ x.Log ≤ 512 ∧ 1 ≤ x.Lease ∧ x.Lease < x.Wait ∧ x.Wait ≤ 1048576
      omega
    · obtain ⟨_, _, _, _, _, _, _, _, _, _, _, _, q1, q2, q3⟩ := h
      replace q1 : 1 ≤ x.Lease := q1
      replace q2 : x.Lease < x.Wait := q2
      replace q3 : x.Wait ≤ 1048576 := q3
      omega
theorem in_eq {L : Nat} (n a b : Int) : yEh L n a b = some (decide (a ≤ n ∧ n ≤ b)) := by
  unfold yEh yM3
  by_cases h1 : a ≤ n
  · rw [bif_t (decide_eq_true h1)]
    congr 1
    exact decide_eq_decide.2 ⟨fun h => ⟨h1, h⟩, fun h => h.2⟩
  · rw [bif_f (decide_eq_false h1), decide_eq_false fun h => h1 h.1]
theorem rMay_eq {L : Nat} (x : yAW) : yBa L x = some (geoOf x).may := by
  have no : ∀ {p : Prop}, ((geoOf x).OK → p) → ¬ p → (geoOf x).may = false := fun h hp => by
    cases hm : (geoOf x).may with
    | false => rfl
    | true => exact absurd (h (Geo.may_ok hm)) hp
  unfold yBa yME
  rw [in_eq, bindO_s]
  by_cases h1 : ¬ (1 ≤ x.Nodes ∧ x.Nodes ≤ 16)
  · rw [decide_eq_false h1, no (fun h => ⟨h.n1, h.n2⟩) h1]; rfl
  replace h1 := Decidable.not_not.1 h1
  rw [decide_eq_true h1, cond_true, in_eq, bindO_s]
  by_cases h0 : ¬ (1 ≤ x.Slots ∧ x.Slots ≤ x.Nodes)
  · rw [decide_eq_false h0, no (fun h => ⟨h.s1, h.s2⟩) h0]; rfl
  replace h0 := Decidable.not_not.1 h0
  rw [decide_eq_true h0, cond_true, in_eq, bindO_s]
  by_cases h2 : ¬ (1 ≤ x.Blocks ∧ x.Blocks ≤ 64)
  · rw [decide_eq_false h2, no (fun h => ⟨h.b1, h.b2⟩) h2]; rfl
  replace h2 := Decidable.not_not.1 h2
  rw [decide_eq_true h2, cond_true, in_eq, bindO_s]
  by_cases h3 : ¬ (1 ≤ x.Per ∧ x.Per ≤ 8)
  · rw [decide_eq_false h3, no (fun h => ⟨h.p1, h.p2⟩) h3]; rfl
  replace h3 := Decidable.not_not.1 h3
  rw [decide_eq_true h3, cond_true, w64_t (n := x.Per + 2) (by omega) (by omega), in_eq, bindO_s]
  by_cases h4 : ¬ (x.Per + 2 ≤ x.Journal ∧ x.Journal ≤ 64)
  · rw [decide_eq_false h4, no (fun h => ⟨h.j1, h.j2⟩) h4]; rfl
  replace h4 := Decidable.not_not.1 h4
  rw [decide_eq_true h4, cond_true, w64_t (n := 8 * x.Slots) (by omega) (by omega), in_eq, bindO_s]
  by_cases h5 : ¬ (8 * x.Slots ≤ x.Log ∧ x.Log ≤ 512)
  · rw [decide_eq_false h5, no (fun h => ⟨h.l1, h.l2⟩) h5]; rfl
  replace h5 := Decidable.not_not.1 h5
  rw [decide_eq_true h5, cond_true]
  by_cases h6 : 1 ≤ x.Lease
  · rw [bif_t (decide_eq_true h6)]
    by_cases h7 : x.Lease < x.Wait
    · rw [bif_t (decide_eq_true h7)]
      congr 1
      show decide _ = decide _
      refine decide_eq_decide.2 ⟨fun h => ?_, fun h => h.2.2.2.2.2.2.2.2.2.2.2.2.2.2⟩
      show 1 ≤ x.Nodes ∧ x.Nodes ≤ 16 ∧ 1 ≤ x.Slots ∧ x.Slots ≤ x.Nodes ∧ 1 ≤ x.Blocks ∧ x.Blocks ≤ 64 ∧ 1 ≤ x.Per ∧ x.Per ≤ 8 ∧ x.Per + 2 ≤ x.Journal ∧ x.Journal ≤ 64 ∧ 8 * x.Slots ≤ x.Log ∧ x.Log ≤ 512 ∧ 1 ≤ x.Lease ∧ x.Lease < x.Wait ∧ x.Wait ≤ 1048576
      omega
    · rw [bif_f (decide_eq_false h7), no (fun h => h.e2) h7]
  · rw [bif_f (decide_eq_false h6), no (fun h => h.e1) h6]
theorem find_go {α : Type} {k : Int} {z : yAD} {rs : List yAD} (hl : rs.length ≤ 1000) {ka : yAD × Unit → Option α} {kb : yAD × Unit → Option α} : ∀ (m i : Nat), i ≤ rs.length → rs.length < m + i → loop2 yEF m (k, z, rs.map yAD.cs, (rs.length : Int), (i : Int), ()) ka kb = match (rs.drop i).find? (fun r => r.kind_ == k) with
    | some r => kb (r, ())
    | none => ka (z, ())
  | 0, i, h1, h2 => by omega
  | m + 1, i, h1, h2 => by
    show yEF (k, z, rs.map yAD.cs, (rs.length : Int), (i : Int), ()) (fun s' => loop2 yEF m s' ka kb) ka kb = _
    unfold yEF
    dsimp only
    by_cases hlt : i < rs.length
    · have hc : ∀ j, cell (rs.map yAD.cs) i j = cell [yAD.cs rs[i]] 0 j := fun j => rows_cell hlt
      rw [bif_t (decide_eq_true (by omega)), gI_t (by omega) (by rw [List.length_map]; omega) (rows_is _ (fun _ => rfl) (by omega)), Int.toNat_natCast, List.drop_eq_getElem_cons hlt]
      simp only [aI, hc, List.find?_cons]
      show (bif rs[i].kind_ == k then kb (rs[i], ()) else _) = _
      cases hk : rs[i].kind_ == k with
      | true => rfl
      | false =>
        rw [cond_false, w64_t (by omega) (by omega)]
        exact find_go hl m (i + 1) (by omega) (by omega)
    · rw [bif_f (decide_eq_false (by omega)), List.drop_eq_nil_of_le (by omega)]
      rfl
theorem find_eq {L : Nat} (hL : 10 < L) {x : yAW} {k : Int} {rs : List yAD} (hl : rs.length ≤ 6) (h : yGg L x = some (rs.map yAD.cs)) : yJ3 L x k = some ((rs.find? fun r => r.kind_ == k).getD ⟨yAX.z, 0, 1⟩) := by
  unfold yJ3 yM0
  rw [h, bindO_s, List.length_map]
  have := find_go (α := yAD) (k := k) (z := yAD.z) (rs := rs) (by omega) (ka := fun q2 => some ⟨yAX.z, 0, 1⟩) (kb := fun q3 => some q3.1) L 0 (Nat.zero_le _) (by omega)
  rw [List.drop_zero] at this
  refine this.trans ?_
  cases rs.find? fun r => r.kind_ == k <;> rfl
def regs (x : yAW) : List yAD := [⟨⟨0, 1⟩, 1, 1⟩, ⟨⟨1, x.Nodes⟩, 2, 1⟩, ⟨⟨1 + x.Nodes, x.Nodes⟩, 3, 1⟩, ⟨⟨1 + 2 * x.Nodes, x.Log⟩, 4, 1⟩, ⟨⟨1 + 2 * x.Nodes + x.Log, x.Slots * (1 + x.Journal)⟩, 6, 1 + x.Journal⟩, ⟨⟨1 + 2 * x.Nodes + x.Log + x.Slots * (1 + x.Journal), x.Blocks * x.Per⟩, 7, x.Per⟩]
theorem regions_eq {L : Nat} (hL : 10 < L) {x : yAW} (hw : i64b x.Wait = true) : yGg L x = some ((if (geoOf x).may = true then regs x else []).map yAD.cs) := by
  unfold yGg yJ6
  rw [gMay_eq hL hw, bindO_s]
  cases hm : (geoOf x).may with
  | false => rfl
  | true =>
    have h := Geo.may_ok hm
    have n1 : 1 ≤ x.Nodes := h.n1
    have n2 : x.Nodes ≤ 16 := h.n2
    have l1 : 8 * x.Slots ≤ x.Log := h.l1
    have l2 : x.Log ≤ 512 := h.l2
    have s1 : 1 ≤ x.Slots := h.s1
    have sj : 0 ≤ x.Slots * (1 + x.Journal) ∧ x.Slots * (1 + x.Journal) ≤ 1040 := h.sj
    have bp : 0 ≤ x.Blocks * x.Per ∧ x.Blocks * x.Per ≤ 512 := h.bp
    have j1 : x.Per + 2 ≤ x.Journal := h.j1
    have j2 : x.Journal ≤ 64 := h.j2
    have p1 : 1 ≤ x.Per := h.p1
    have e1 : w64 (x.Nodes * 1) = x.Nodes := by rw [w64_t (by omega) (by omega)]; omega
    have e2 : w64 (1 + x.Nodes) = 1 + x.Nodes := w64_t (by omega) (by omega)
    have e3 : w64 (1 + x.Nodes + x.Nodes) = 1 + 2 * x.Nodes := by rw [w64_t (by omega) (by omega)]; omega
    have e4 : w64 (x.Log * 1) = x.Log := by rw [w64_t (by omega) (by omega)]; omega
    have e5 : w64 (1 + 2 * x.Nodes + x.Log) = 1 + 2 * x.Nodes + x.Log := w64_t (by omega) (by omega)
    have e6 : w64 (1 + x.Journal) = 1 + x.Journal := w64_t (by omega) (by omega)
    have e7 : w64 (x.Slots * (1 + x.Journal)) = x.Slots * (1 + x.Journal) := w64_t (by omega) (by omega)
    have e8 : w64 (1 + 2 * x.Nodes + x.Log + x.Slots * (1 + x.Journal)) = 1 + 2 * x.Nodes + x.Log + x.Slots * (1 + x.Journal) := w64_t (by omega) (by omega)
    have e9 : w64 (x.Blocks * x.Per) = x.Blocks * x.Per := w64_t (by omega) (by omega)
    rw [Bool.not_true, cond_false, if_pos rfl]
    simp only [e1, e2, e3, e4, e5, e6, e7, e8, e9]
    rfl
theorem of_no {L : Nat} (hL : 10 < L) {x : yAW} (hw : i64b x.Wait = true) (hm : (geoOf x).may = false) (k i j : Int) : yMa L x k i j = some (-1) := by
  unfold yMa yNm
  rw [find_eq hL (rs := []) (Nat.zero_le _) (by rw [regions_eq hL hw, hm]; rfl), bindO_s]
  show (bif decide (i < 0) then some (-1) else gd (!(decide ((1 : Int) = 0))) <| bif decide (w64 ((0 : Int).tdiv 1) ≤ i) then some (-1) else _) = _
  by_cases h : i < 0
  · rw [bif_t (decide_eq_true h)]
  · rw [bif_f (decide_eq_false h), gd_t (show (!(decide ((1 : Int) = 0))) = true from rfl), bif_t (decide_eq_true (by show w64 0 ≤ i; rw [w64_t (by omega) (by omega)]; omega))]
theorem of_one {L : Nat} (hL : 10 < L) {x : yAW} (hw : i64b x.Wait = true) (hm : (geoOf x).may = true) {k a m : Int} (hf : ((regs x).find? fun r => r.kind_ == k) = some ⟨⟨a, m⟩, k, 1⟩) (ha : 0 ≤ a) (ha2 : a ≤ 10000) (h0 : 0 ≤ m) (h2 : m ≤ 10000) (i : Int) :
    yMa L x k i 0 = some (if 0 ≤ i ∧ i < m then a + i else -1) := by
  unfold yMa yNm
  rw [find_eq hL (rs := regs x) (Nat.le_refl _) (by rw [regions_eq hL hw, if_pos hm]), hf, bindO_s]
  show (bif decide (i < 0) then some (-1) else gd (!(decide ((1 : Int) = 0))) <| bif decide (w64 (m.tdiv 1) ≤ i) then some (-1) else bif decide ((0 : Int) < 0) then some (-1) else bif decide ((1 : Int) ≤ 0) then some (-1) else bindO (yE9 L ⟨a, m⟩ (w64 (w64 (i * 1) + 0))) fun r2 => some r2) = _
  by_cases h : i < 0
  · rw [bif_t (decide_eq_true h), if_neg (by omega)]
  rw [bif_f (decide_eq_false h), gd_t (show (!(decide ((1 : Int) = 0))) = true from rfl), Int.tdiv_one, w64_t (by omega) (by omega)]
  by_cases h1 : m ≤ i
  · rw [bif_t (decide_eq_true h1), if_neg (by omega)]
  rw [bif_f (decide_eq_false h1), if_pos (by omega), bif_f (show decide ((0 : Int) < 0) = false from rfl), bif_f (show decide ((1 : Int) ≤ 0) = false from rfl), w64_t (n := i * 1) (by omega) (by omega), w64_t (by omega) (by omega), show i * 1 + 0 = i by omega]
  unfold yE9 yHw
  dsimp only
  rw [bif_f (decide_eq_false h), bif_f (decide_eq_false h1), w64_t (by omega) (by omega)]
  rfl
theorem gLog_eq {L : Nat} (hL : 10 < L) {x : yAW} (hw : i64b x.Wait = true) (i : Int) : yIg L x i = some ((geoOf x).logS i) := by
  unfold yIg yNx Geo.logS
  cases hm : (geoOf x).may with
  | false => rw [of_no hL hw hm, bindO_s, if_neg (by simp)]
  | true =>
    have h := Geo.may_ok hm
    have n1 : 1 ≤ x.Nodes := h.n1
    have n2 : x.Nodes ≤ 16 := h.n2
    have l1 : 8 * x.Slots ≤ x.Log := h.l1
    have l2 : x.Log ≤ 512 := h.l2
    have s1 : 1 ≤ x.Slots := h.s1
    rw [of_one hL hw hm (a := 1 + 2 * x.Nodes) (m := x.Log) rfl (by omega) (by omega) (by omega) (by omega), bindO_s]
    by_cases hi : 0 ≤ i ∧ i < x.Log
    · rw [if_pos hi, if_pos ⟨rfl, hi⟩]; rfl
    · rw [if_neg hi, if_neg fun q => hi q.2]
theorem gPaxos_eq {L : Nat} (hL : 10 < L) {x : yAW} (hw : i64b x.Wait = true) (i : Int) : yCi L x i = some ((geoOf x).paxosS i) := by
  unfold yCi yL4 Geo.paxosS
  cases hm : (geoOf x).may with
  | false => rw [of_no hL hw hm, bindO_s, if_neg (by simp)]
  | true =>
    have h := Geo.may_ok hm
    have n1 : 1 ≤ x.Nodes := h.n1
    have n2 : x.Nodes ≤ 16 := h.n2
    rw [of_one hL hw hm (a := 1 + x.Nodes) (m := x.Nodes) rfl (by omega) (by omega) (by omega) (by omega), bindO_s]
    by_cases hi : 0 ≤ i ∧ i < x.Nodes
    · rw [if_pos hi, if_pos ⟨rfl, hi⟩]; rfl
    · rw [if_neg hi, if_neg fun q => hi q.2]
theorem gTotal_eq {L : Nat} (hL : 10 < L) {x : yAW} (hw : i64b x.Wait = true) : yJi L x = some (geoOf x).totalS := by
  unfold yJi yL5 Geo.totalS
  cases hm : (geoOf x).may with
  | false =>
    rw [find_eq hL (rs := []) (Nat.zero_le _) (by rw [regions_eq hL hw, hm]; rfl), bindO_s, if_neg (by simp)]
    rfl
  | true =>
    have h := Geo.may_ok hm
    have n1 : 1 ≤ x.Nodes := h.n1
    have n2 : x.Nodes ≤ 16 := h.n2
    have l1 : 8 * x.Slots ≤ x.Log := h.l1
    have l2 : x.Log ≤ 512 := h.l2
    have s1 : 1 ≤ x.Slots := h.s1
    have sj : 0 ≤ x.Slots * (1 + x.Journal) ∧ x.Slots * (1 + x.Journal) ≤ 1040 := h.sj
    have bp : 0 ≤ x.Blocks * x.Per ∧ x.Blocks * x.Per ≤ 512 := h.bp
    rw [find_eq hL (rs := regs x) (Nat.le_refl _) (by rw [regions_eq hL hw, if_pos hm]), bindO_s, if_pos rfl]
    show some (w64 (1 + 2 * x.Nodes + x.Log + x.Slots * (1 + x.Journal) + x.Blocks * x.Per)) = _
    rw [w64_t (by omega) (by omega)]
    rfl
theorem gRest_eq {L : Nat} (hL : 10 < L) {x : yAW} (hw : i64b x.Wait = true) : yLZ L x = some (if (geoOf x).may = true then 4 * x.Slots else 0) := by
  unfold yLZ yMz
  rw [gMay_eq hL hw, bindO_s]
  cases hm : (geoOf x).may with
  | false => rfl
  | true =>
    have h := Geo.may_ok hm
    have s1 : 1 ≤ x.Slots := h.s1
    have s2 : x.Slots ≤ x.Nodes := h.s2
    have n2 : x.Nodes ≤ 16 := h.n2
    rw [Bool.not_true, cond_false, if_pos rfl, w64_t (by omega) (by omega)]
theorem rLog_eq {L : Nat} (x : yAW) (i : Int) : yJm L x i = some ((geoOf x).logS i) := by
  unfold yJm yMD Geo.logS
  rw [rMay_eq, bindO_s]
  cases hm : (geoOf x).may with
  | false => rw [if_neg (by simp)]; rfl
  | true =>
    have h := Geo.may_ok hm
    have n1 : 1 ≤ x.Nodes := h.n1
    have n2 : x.Nodes ≤ 16 := h.n2
    have l1 : 8 * x.Slots ≤ x.Log := h.l1
    have l2 : x.Log ≤ 512 := h.l2
    have s1 : 1 ≤ x.Slots := h.s1
    rw [Bool.not_true, cond_false, w64_t (n := x.Log - 1) (by omega) (by omega), in_eq, bindO_s]
    by_cases hi : 0 ≤ i ∧ i < x.Log
    · rw [decide_eq_true (by omega), Bool.not_true, cond_false, w64_t (n := 2 * x.Nodes) (by omega) (by omega), w64_t (n := 1 + 2 * x.Nodes) (by omega) (by omega), w64_t (by omega) (by omega), if_pos ⟨rfl, hi⟩]
      rfl
    · rw [decide_eq_false (by omega), if_neg fun q => hi q.2]; rfl
theorem rPaxos_eq {L : Nat} (x : yAW) (i : Int) : yGt L x i = some ((geoOf x).paxosS i) := by
  unfold yGt yKC Geo.paxosS
  rw [rMay_eq, bindO_s]
  cases hm : (geoOf x).may with
  | false => rw [if_neg (by simp)]; rfl
  | true =>
    have h := Geo.may_ok hm
    have n1 : 1 ≤ x.Nodes := h.n1
    have n2 : x.Nodes ≤ 16 := h.n2
    rw [Bool.not_true, cond_false, w64_t (n := x.Nodes - 1) (by omega) (by omega), in_eq, bindO_s]
    by_cases hi : 0 ≤ i ∧ i < x.Nodes
    · rw [decide_eq_true (by omega), Bool.not_true, cond_false, w64_t (n := 1 + x.Nodes) (by omega) (by omega), w64_t (by omega) (by omega), if_pos ⟨rfl, hi⟩]
      rfl
    · rw [decide_eq_false (by omega), if_neg fun q => hi q.2]; rfl
theorem rHead_eq {L : Nat} (x : yAW) (i : Int) : yEf L x i = some ((geoOf x).headS i) := by
  unfold yEf yLM Geo.headS
  rw [rMay_eq, bindO_s]
  cases hm : (geoOf x).may with
  | false => rw [if_neg (by simp)]; rfl
  | true =>
    have h := Geo.may_ok hm
    have n1 : 1 ≤ x.Nodes := h.n1
    have n2 : x.Nodes ≤ 16 := h.n2
    have l1 : 8 * x.Slots ≤ x.Log := h.l1
    have l2 : x.Log ≤ 512 := h.l2
    have s1 : 1 ≤ x.Slots := h.s1
    have s2 : x.Slots ≤ x.Nodes := h.s2
    have j1 : x.Per + 2 ≤ x.Journal := h.j1
    have j2 : x.Journal ≤ 64 := h.j2
    have p1 : 1 ≤ x.Per := h.p1
    rw [Bool.not_true, cond_false, w64_t (n := x.Slots - 1) (by omega) (by omega), in_eq, bindO_s]
    by_cases hi : 0 ≤ i ∧ i < x.Slots
    · have hb := mul_bd (a := i) (b := 1 + x.Journal) (A := 16) (B := 65) (by omega) (by omega) (by omega) (by omega)
      rw [decide_eq_true (by omega), Bool.not_true, cond_false, w64_t (n := 2 * x.Nodes) (by omega) (by omega), w64_t (n := 1 + 2 * x.Nodes) (by omega) (by omega), w64_t (n := 1 + x.Journal) (by omega) (by omega), w64_t (n := i * (1 + x.Journal)) (by omega) (by omega), w64_t (n := 1 + 2 * x.Nodes + x.Log) (by omega) (by omega), w64_t (by omega) (by omega), if_pos ⟨rfl, hi⟩]
      rfl
    · rw [decide_eq_false (by omega), if_neg fun q => hi q.2]; rfl
theorem rTotal_eq {L : Nat} (x : yAW) : yBg L x = some (geoOf x).totalS := by
  unfold yBg yKD Geo.totalS
  rw [rMay_eq, bindO_s]
  cases hm : (geoOf x).may with
  | false => rw [if_neg (by simp)]; rfl
  | true =>
    have h := Geo.may_ok hm
    have n1 : 1 ≤ x.Nodes := h.n1
    have n2 : x.Nodes ≤ 16 := h.n2
    have l1 : 8 * x.Slots ≤ x.Log := h.l1
    have l2 : x.Log ≤ 512 := h.l2
    have s1 : 1 ≤ x.Slots := h.s1
    have sj : 0 ≤ x.Slots * (1 + x.Journal) ∧ x.Slots * (1 + x.Journal) ≤ 1040 := h.sj
    have bp : 0 ≤ x.Blocks * x.Per ∧ x.Blocks * x.Per ≤ 512 := h.bp
    have b1 : 1 ≤ x.Blocks := h.b1
    have b2 : x.Blocks ≤ 64 := h.b2
    have p1 : 1 ≤ x.Per := h.p1
    have p2 : x.Per ≤ 8 := h.p2
    have j1 : x.Per + 2 ≤ x.Journal := h.j1
    have j2 : x.Journal ≤ 64 := h.j2
    have hb : (x.Blocks - 1) * x.Per = x.Blocks * x.Per - x.Per := by rw [Int.sub_mul]; omega
    rw [Bool.not_true, cond_false, w64_t (n := x.Blocks - 1) (by omega) (by omega), w64_t (n := x.Per - 1) (by omega) (by omega)]
    unfold yLb yLL
    rw [rMay_eq, hm, bindO_s, Bool.not_true, cond_false, w64_t (n := x.Blocks - 1) (by omega) (by omega), in_eq, bindO_s, decide_eq_true (by omega), Bool.not_true, cond_false, w64_t (n := x.Per - 1) (by omega) (by omega), in_eq, bindO_s, decide_eq_true (by omega), Bool.not_true, cond_false, hb,
      w64_t (n := 2 * x.Nodes) (by omega) (by omega), w64_t (n := 1 + 2 * x.Nodes) (by omega) (by omega), w64_t (n := 1 + x.Journal) (by omega) (by omega), w64_t (n := x.Slots * (1 + x.Journal)) (by omega) (by omega), w64_t (n := 1 + 2 * x.Nodes + x.Log) (by omega) (by omega), w64_t (n := 1 + 2 * x.Nodes + x.Log + x.Slots * (1 + x.Journal)) (by omega) (by omega),
      w64_t (n := x.Blocks * x.Per - x.Per) (by omega) (by omega), w64_t (n := 1 + 2 * x.Nodes + x.Log + x.Slots * (1 + x.Journal) + (x.Blocks * x.Per - x.Per)) (by omega) (by omega), w64_t (n := _ + (x.Per - 1)) (by omega) (by omega), bindO_s, w64_t (by omega) (by omega), if_pos rfl]
    congr 1
    show _ = 1 + 2 * x.Nodes + x.Log + x.Slots * (1 + x.Journal) + x.Blocks * x.Per
    omega
end Go.Proofs.YtakljpcmbpaeaaaGreat

namespace Go.Proofs.YtakljpcmbpaeaaaGreat
open Go.RowKit

def betB (n a b : Int) : Bool := decide (a ≤ n ∧ n ≤ b)
def mayB (i m b : Int) (v : Bs) : Bool := betB i 0 512 && (betB m 0 1099511627776 && (betB b 0 m && (decide (v.length ≤ 64) && ((b == 0) == v.isEmpty))))
def bytesR (i m b : Int) (v : Bs) : Bs × Int := if mayB i m b v = true then makeR 4 v [2, 6, 6] [i, m, b] else ([], 2)
def readR (s : Bs) : (Int × Int × Int × Bs) × Int :=
  if s = [] then ((0, 0, 0, []), 0) else
  match fieldsR 4 s [2, 6, 6] with
  | ([i, m, b], v, 0) => if mayB i m b v = true then ((i, m, b, v), 0) else ((0, 0, 0, []), 50)
  | _ => ((0, 0, 0, []), 50)
theorem bet_eq {L : Nat} (n a b : Int) : yCv L n a b = some (betB n a b) := by
  unfold yCv yHu betB
  by_cases h1 : a ≤ n
  · rw [bif_t (decide_eq_true h1)]
    congr 1
    exact decide_eq_decide.2 ⟨fun h => ⟨h1, h⟩, fun h => h.2⟩
  · rw [bif_f (decide_eq_false h1), decide_eq_false fun h => h1 h.1]
theorem noS_list : noS.toList = [] := by rw [toList_d]; rfl
theorem beq_nil (l : Bs) : (l == []) = l.isEmpty := by cases l <;> rfl
theorem rmay_eq {L : Nat} (x : yAN) : yBV L ⟨x⟩ = some (mayB x.Inst x.Mbal x.Bal x.Val.data.toList) := by
  unfold yBV yFR mayB
  rw [bet_eq, bindO_s]
  cases betB x.Inst 0 512 with
  | false => rfl
  | true =>
  rw [cond_true, bet_eq, bindO_s, Bool.true_and]
  cases betB x.Mbal 0 1099511627776 with
  | false => rfl
  | true =>
  rw [cond_true, bet_eq, bindO_s, Bool.true_and]
  cases betB x.Bal 0 x.Mbal with
  | false => rfl
  | true =>
  rw [cond_true, Bool.true_and, bytes_length]
  dsimp only
  by_cases h : x.Val.size ≤ 64
  · rw [bif_t (decide_eq_true (by omega)), decide_eq_true h, Bool.true_and, noS_list, toList_d, beq_nil]
  · rw [bif_f (decide_eq_false (by omega)), decide_eq_false h]; rfl
theorem bBytes_eq0 {L : Nat} (hL : 10 < L) (x : yAN) : yFZ L x = some (mkS (bytesR x.Inst x.Mbal x.Bal x.Val.data.toList).1, (bytesR x.Inst x.Mbal x.Bal x.Val.data.toList).2, ()) := by
  unfold yFZ yJD yLY yKx bytesR
  rw [rmay_eq, bindO_s, bindO_s]
  by_cases h : mayB x.Inst x.Mbal x.Bal x.Val.data.toList = true
  · have hv : x.Val.size ≤ 64 := by
      unfold mayB at h
      simp only [Bool.and_eq_true, decide_eq_true_eq, bytes_length] at h
      exact h.2.2.2.1
    have hm := make_eq (L := L) (k := 4) (rest := x.Val) (ws := [2, 6, 6]) (l := [x.Inst, x.Mbal, x.Bal]) (by omega) (by simp; omega) (by simp) (by omega)
    rw [h, if_pos rfl]
    unfold yDy yEy yC1 yDp
    rw [Bool.not_true, cond_false, bindO_s]
    show bindO (bindO (yJr L 4 x.Val ([2, 6, 6].map inV) ([x.Inst, x.Mbal, x.Bal].map inV)) _) _ = _
    rw [hm]; rfl
  · rw [if_neg h, show mayB x.Inst x.Mbal x.Bal x.Val.data.toList = false by simpa using h]; rfl
theorem fieldsR_cases (k : Int) (s : Bs) (ws : List Int) : ((fieldsR k s ws).2.2 = 0 ∧ (fieldsR k s ws).1.length = ws.length) ∨ fieldsR k s ws = ([], [], 30) := by
  unfold fieldsR
  rcases ofR_two k s with h | h
  · rw [if_pos h]
    cases ht : takeF (ofR k s).1 ws with
    | none => exact .inr rfl
    | some r => exact .inl ⟨rfl, (takeF_le _ _ _ ht).2⟩
  · rw [h]
    exact .inr (if_neg (by simp))
theorem three {l : List Int} (h : l.length = 3) : ∃ a b c, l = [a, b, c] := by
  match l, h with
  | [a, b, c], _ => exact ⟨a, b, c, rfl⟩
theorem bRead_eq0 {L : Nat} (hL : 10 < L) {s : ByteArray} (hs : s.size ≤ 1000000000) : yCu L s = some (⟨(readR s.data.toList).1.1, (readR s.data.toList).1.2.1, (readR s.data.toList).1.2.2.1, mkS (readR s.data.toList).1.2.2.2⟩, (readR s.data.toList).2, ()) := by
  unfold yCu yJv readR
  rw [noS_list, toList_d, beq_nil]
  by_cases h0 : s.data.toList = []
  · rw [if_pos h0, h0]; rfl
  rw [if_neg h0, bif_f (by cases h : s.data.toList with
    | nil => exact absurd h h0
    | cons _ _ => rfl)]
  have hf := fields_eq (ws := [2, 6, 6]) hL hs (by simp; omega) (by simp) 4
  show bindO (yHE L 4 s ([2, 6, 6].map inV)) _ = _
  rw [hf, bindO_s]
  rcases fieldsR_cases 4 s.data.toList [2, 6, 6] with ⟨h1, h2⟩ | h1
  · obtain ⟨i, m, b, h3⟩ := three h2
    generalize hR : fieldsR 4 s.data.toList [2, 6, 6] = R at *
    obtain ⟨R1, R2, R3⟩ := R
    dsimp only at h1 h3 ⊢
    subst h1 h3
    rw [show ((0 : Int) != 0) = false from rfl, cond_false, gd_t (decide_eq_true (by simp)), gL_t (by simp) rfl, gd_t (decide_eq_true (by simp)), gL_t (by simp) rfl, gd_t (decide_eq_true (by simp)), gL_t (by simp) rfl]
    show bindO (yBV L ⟨⟨i, m, b, mkS R2⟩⟩) _ = _
    rw [rmay_eq, bindO_s, mk_data]
    dsimp only
    cases hb : mayB i m b R2 <;> simp only [hb] <;> rfl
  · rw [h1]; rfl
def maxL (x : Int) (l : List Int) : Int := l.foldl max x
theorem maxL_snoc (x : Int) (l : List Int) (y : Int) : maxL x (l ++ [y]) = max (maxL x l) y := by simp [maxL]
theorem maxL_ge (x : Int) (l : List Int) : x ≤ maxL x l := by
  induction l generalizing x with
  | nil => simp [maxL]
  | cons a l ih =>
    have h := ih (max x a)
    have e : maxL x (a :: l) = maxL (max x a) l := rfl
    omega
def nextR (node most : Int) : Int :=
  if 0 ≤ node ∧ node ≤ 15 ∧ most ≤ 1099511627776 then
    (if most / 16 * 16 + node ≤ most ∨ most / 16 * 16 + node < 16 then (if most / 16 * 16 + node + 16 ≤ 1099511627776 then most / 16 * 16 + node + 16 else 0)
      else if most / 16 * 16 + node ≤ 1099511627776 then most / 16 * 16 + node else 0)
  else 0
theorem next_of {node most r : Int} (h0 : 0 ≤ node) (h1 : node ≤ 15) (hm : 0 ≤ most) (hm2 : most ≤ 1099511627776) (hr : 1 ≤ r) (hr2 : r = 1 ∨ (r - 1) * 16 + node ≤ most) (hgt : most < r * 16 + node) :
    nextR node most = if r * 16 + node ≤ 1099511627776 then r * 16 + node else 0 := by
  rw [nextR, if_pos ⟨h0, h1, hm2⟩]
  by_cases h : most / 16 * 16 + node ≤ most ∨ most / 16 * 16 + node < 16
  · rw [if_pos h]
    have : most / 16 * 16 + node + 16 = r * 16 + node := by omega
    rw [this]
  · rw [if_neg h]
    have : most / 16 * 16 + node = r * 16 + node := by omega
    rw [this]
theorem minI_t {a b : Int} : minI true a b = max a b := by
  unfold minI
  simp only [if_true]
  split <;> omega
theorem max_eq {L : Nat} {x : Int} {l : List Int} (hl : l.length ≤ 1000000) (hL : l.length + 1 < L) : yCr L ((x :: l).map inV) = some (maxL x l) := by
  unfold yCr yE6
  rw [bif_f (decide_eq_false (by rw [List.length_map, List.length_cons]; omega)), gd_t (decide_eq_true (by rw [List.length_map, List.length_cons]; omega)), gd_t (show rowIs kI ((x :: l).map inV) 0 = true from rfl)]
  obtain ⟨q, hq, hrun⟩ := loop1_run (α := Int) (F := yBI) (fun q => ∃ k : Nat, k ≤ l.length ∧ q = ((x :: l).map inV, maxL x (l.take k), ((k + 1 : Nat) : Int), ())) (fun q => l.length + 1 - q.2.2.1.toNat) (fun q => q = (maxL x l, ()))
    (fun q hq => by
      obtain ⟨k, hk, rfl⟩ := hq
      have hxl : (x :: l).length = l.length + 1 := rfl
      by_cases hlt : k < l.length
      · refine .inl ⟨_, ⟨k + 1, hlt, rfl⟩, by dsimp only; omega, fun kn ka => ?_⟩
        unfold yBI
        dsimp only
        rw [bif_t (decide_eq_true (by rw [List.length_map]; omega)), gI_in (by omega) (by omega), Int.toNat_natCast, aI_in (by omega), minI_t, w64_t (by omega) (by omega), List.take_succ_eq_append_getElem hlt, maxL_snoc]
        rfl
      · obtain rfl : k = l.length := by omega
        refine .inr ⟨_, rfl, fun kn ka => ?_⟩
        unfold yBI
        dsimp only
        rw [bif_f (decide_eq_false (by rw [List.length_map]; omega)), List.take_length])
    L ((x :: l).map inV, aI ((x :: l).map inV) 0 0, 1, ()) ⟨0, Nat.zero_le _, rfl⟩ (by dsimp only; omega)
  subst hq
  rw [hrun]
theorem next_eq {L : Nat} {l : List Int} (hl : l.length ≤ 100000) (hL : l.length + 50 < L) (n : Int) : yGW L n (l.map inV) = some (nextR n (maxL 0 l)) := by
  have hno : ¬ (0 ≤ n ∧ n ≤ 15 ∧ maxL 0 l ≤ 1099511627776) → some 0 = some (nextR n (maxL 0 l)) := fun h => by rw [nextR, if_neg h]
  have hg := maxL_ge 0 l
  unfold yGW yJu
  rw [show ([[V.int .i64 0]]) ++ l.map inV = ((0 : Int) :: l).map inV from rfl, List.length_map, gd_t (rows_sz 1 fun _ => rfl), gM_t (by omega) (by omega), gF_t (by simp; omega) (by omega) (nm_in _), take_all _ (by simp; omega), max_eq (by omega) (by omega), bindO_s, bet_eq, bindO_s]
  by_cases h1 : ¬ (0 ≤ n ∧ n ≤ 15)
  · rw [show betB n 0 15 = false from decide_eq_false h1]
    exact hno fun h => h1 ⟨h.1, h.2.1⟩
  replace h1 := Decidable.not_not.1 h1
  rw [show betB n 0 15 = true from decide_eq_true h1, Bool.not_true, cond_false]
  generalize maxL 0 l = m at *
  by_cases h2 : 1099511627776 < m
  · rw [bif_t (decide_eq_true h2)]
    exact hno fun h => by omega
  rw [bif_f (decide_eq_false h2), w64_t (n := m - n) (by omega) (by omega)]
  have ht : (m - n).tdiv 16 ≤ m ∧ -1 ≤ (m - n).tdiv 16 ∧ ((m - n).tdiv 16 = 0 ∨ (m - n).tdiv 16 * 16 ≤ m - n) ∧ m - n < (m - n).tdiv 16 * 16 + 16 := by
    by_cases hs : 0 ≤ m - n
    · rw [Int.tdiv_eq_ediv_of_nonneg hs]; omega
    · have : (m - n).tdiv 16 = 0 := by
        rw [show m - n = -(n - m) by omega, Int.neg_tdiv, Int.tdiv_eq_ediv_of_nonneg (by omega)]
        omega
      omega
  rw [w64_t (by omega) (by omega), minI_t]
  generalize (m - n).tdiv 16 = t at *
  obtain ⟨q, hq, hrun⟩ := loop1_run (α := Int) (F := yCt) (fun q => ∃ r : Int, 1 ≤ r ∧ r ≤ 1099511627777 ∧ (r = 1 ∨ (r - 1) * 16 + n ≤ m) ∧ q = (n, m, r, ())) (fun q => (m + 16 - (q.2.2.1 * 16 + n)).toNat) (fun q => ∃ r : Int, 1 ≤ r ∧ r ≤ 1099511627777 ∧ (r = 1 ∨ (r - 1) * 16 + n ≤ m) ∧ m < r * 16 + n ∧ q = (n, r, ()))
    (fun q hq => by
      obtain ⟨r, hr, hr3, hr2, rfl⟩ := hq
      by_cases hlt : r * 16 + n ≤ m
      · refine .inl ⟨(n, m, r + 1, ()), ⟨r + 1, by omega, by omega, .inr (by omega), rfl⟩, by dsimp only; omega, fun kn ka => ?_⟩
        unfold yCt
        dsimp only
        rw [w64_t (n := r * 16) (by omega) (by omega), w64_t (n := r * 16 + n) (by omega) (by omega), bif_t (decide_eq_true hlt), w64_t (by omega) (by omega)]
      · refine .inr ⟨_, ⟨r, hr, hr3, hr2, by omega, rfl⟩, fun kn ka => ?_⟩
        unfold yCt
        dsimp only
        rw [w64_t (n := r * 16) (by omega) (by omega), w64_t (n := r * 16 + n) (by omega) (by omega), bif_f (decide_eq_false hlt)])
    L (n, m, max 1 t, ()) ⟨max 1 t, by omega, by omega, by omega, rfl⟩ (by dsimp only; omega)
  obtain ⟨r, hr, hr3, hr2, hgt, rfl⟩ := hq
  rw [hrun]
  dsimp only
  rw [w64_t (n := r * 16) (by omega) (by omega), w64_t (n := r * 16 + n) (by omega) (by omega), next_of h1.1 h1.2 hg (by omega) hr hr2 hgt]
  by_cases h : r * 16 + n ≤ 1099511627776
  · rw [bif_t (decide_eq_true h), if_pos h]
  · rw [bif_f (decide_eq_false h), if_neg h]
theorem fits6 {n : Int} (h1 : 0 ≤ n) (h2 : n ≤ 1099511627776) : fitsB n 6 = true := decide_eq_true ⟨by omega, by omega, h1, by simp [mostW]; omega⟩
theorem readR_of {s v : Bs} {i m b : Int} (hne : s ≠ []) (h : fieldsR 4 s [2, 6, 6] = ([i, m, b], v, 0)) : readR s = if mayB i m b v = true then ((i, m, b, v), 0) else ((0, 0, 0, []), 50) := by
  rw [readR, if_neg hne, h]; rfl
theorem mayB_parts {i m b : Int} {v : Bs} (h : mayB i m b v = true) : 0 ≤ i ∧ i ≤ 512 ∧ 0 ≤ m ∧ m ≤ 1099511627776 ∧ 0 ≤ b ∧ b ≤ m ∧ v.length ≤ 64 := by
  unfold mayB betB at h
  simp only [Bool.and_eq_true, decide_eq_true_eq] at h
  omega
theorem bytes_may {i m b : Int} {v : Bs} (h : mayB i m b v = true) : ∃ l x, bytesR i m b v = (x, 0) ∧ sealB 4 l = some x ∧ readR x = ((i, m, b, v), 0) ∧ x.length = 21 + v.length := by
  obtain ⟨h1, h2, h3, h4, h5, h6, h7⟩ := mayB_parts h
  have hf2 : fitsB i 2 = true := decide_eq_true ⟨by omega, by omega, h1, by simp [mostW]; omega⟩
  have hf : fieldsB [] [2, 6, 6] [i, m, b] = some (leBytes 2 i.toNat ++ leBytes 6 m.toNat ++ leBytes 6 b.toNat) := by
    simp only [fieldsB, List.nil_append]
    rw [if_pos ⟨hf2, by rw [leBytes_length]; decide⟩, if_pos ⟨fits6 h3 h4, by simp [leBytes_length]⟩, if_pos ⟨fits6 h5 (by omega), by simp [leBytes_length]⟩]
    rfl
  have hl : (leBytes 2 i.toNat ++ leBytes 6 m.toNat ++ leBytes 6 b.toNat ++ v).length = 14 + v.length := by simp [leBytes_length]; omega
  have hs : sealB 4 (leBytes 2 i.toNat ++ leBytes 6 m.toNat ++ leBytes 6 b.toNat ++ v) = some _ := sealB_some (by omega) (by omega)
  have hlen := (sealB_len hs).2.2
  have hfr := fieldsR_make (by omega) hf hs
  refine ⟨_, _, ?_, hs, ?_, by rw [hlen, hl]; omega⟩
  · rw [bytesR, if_pos h, makeR, hf]
    show sealR 4 _ = _
    rw [sealR, hs]
  · rw [readR_of (fun e => by rw [e] at hlen; simp at hlen) hfr, if_pos h]
theorem next_law {node most : Int} (h0 : 0 ≤ node) (h1 : node ≤ 15) (hm : 0 ≤ most) (hm2 : most ≤ 1099511627744) :
    most < nextR node most ∧ nextR node most ≤ most + 31 ∧ 16 ≤ nextR node most ∧ nextR node most % 16 = node ∧ (nextR node most - 16 ≤ most ∨ nextR node most < 32) ∧ nextR node most ≤ 1099511627776 := by
  rw [nextR, if_pos ⟨h0, h1, by omega⟩]
  by_cases h : most / 16 * 16 + node ≤ most ∨ most / 16 * 16 + node < 16
  · rw [if_pos h, if_pos (by omega)]; omega
  · rw [if_neg h, if_pos (by omega)]; omega
end Go.Proofs.YtakljpcmbpaeaaaGreat

namespace Go.Proofs.YtakljpcmbpaeaaaGreat
open Go.RowKit

section
variable {α σ A B : Type}
theorem loop1_cnt {F : σ → (σ → Option α) → (A → Option α) → Option α} (st : Nat → σ) (n : Nat) (a : A) (h : ∀ k, k < n → ∀ kn ka, F (st k) kn ka = kn (st (k + 1))) (he : ∀ kn ka, F (st n) kn ka = ka a) :
    ∀ (m k L : Nat), k + m = n → m < L → ∀ ka, loop1 F L (st k) ka = ka a
  | m, k, 0, _, hm, _ => absurd hm (Nat.not_lt_zero _)
  | 0, k, L + 1, hk, _, ka => by
    have : k = n := by omega
    subst this
    exact he _ _
  | m + 1, k, L + 1, hk, hm, ka => (h k (by omega) _ _).trans (loop1_cnt st n a h he m (k + 1) L (by omega) (by omega) ka)
theorem loop2_cnt {F : σ → (σ → Option α) → (A → Option α) → (B → Option α) → Option α} (st : Nat → σ) (n : Nat) (a : A) (h : ∀ k, k < n → ∀ kn ka kb, F (st k) kn ka kb = kn (st (k + 1))) (he : ∀ kn ka kb, F (st n) kn ka kb = ka a) :
    ∀ (m k L : Nat), k + m = n → m < L → ∀ ka kb, loop2 F L (st k) ka kb = ka a
  | m, k, 0, _, hm, _, _ => absurd hm (Nat.not_lt_zero _)
  | 0, k, L + 1, hk, _, ka, kb => by
    have : k = n := by omega
    subst this
    exact he _ _ _
  | m + 1, k, L + 1, hk, hm, ka, kb => (h k (by omega) _ _ _).trans (loop2_cnt st n a h he m (k + 1) L (by omega) (by omega) ka kb)
end
def keyN (j i : Nat) : Int := if i < j then 17 * (i : Int) + 16 else 0
def CE (c : List (List V)) (N : Nat) : Prop := c.length = N ∧ ∀ r ∈ c, ∃ b, r = [V.sl [] b]
def cE (N : Nat) : List (List V) := List.replicate N [V.sl [] false]
theorem cE_ok (N : Nat) : CE (cE N) N := ⟨List.length_replicate .., fun r hr => ⟨false, List.eq_of_mem_replicate hr⟩⟩
def dvN (s : List ByteArray) (c : List (List V)) (N j : Nat) : yAA := ⟨s.map txV, c, ((List.range N).map (keyN j)).map inV, (j : Int) + 1, []⟩
structure SecOk (s : List ByteArray) : Prop where
  n : 1 ≤ s.length
  m : s.length ≤ 100000
  z : ∀ x ∈ s, x.size ≤ 512
theorem SecOk.set {s : List ByteArray} (h : SecOk s) (k : Nat) {b : ByteArray} (hb : b.size ≤ 512) : SecOk (s.set k b) :=
  ⟨by rw [List.length_set]; exact h.n, by rw [List.length_set]; exact h.m, fun x hx => by
    rcases List.mem_or_eq_of_mem_set hx with q | rfl
    · exact h.z x q
    · exact hb⟩
section
variable {s : List ByteArray} {c : List (List V)} {N j L : Nat}
theorem CE.at_ (hc : CE c N) {i : Nat} (hi : i < N) : ∃ b, c[i]? = some [V.sl [] b] := by
  have hl : i < c.length := by rw [hc.1]; exact hi
  obtain ⟨b, hb⟩ := hc.2 c[i] (List.getElem_mem hl)
  exact ⟨b, by rw [List.getElem?_eq_getElem hl, hb]⟩
theorem CE.gI (hc : CE c N) {α : Type} {x : Option α} {n : Int} (h0 : 0 ≤ n) (h1 : n < N) : gI c kL n x = x := by
  obtain ⟨b, hb⟩ := hc.at_ (i := n.toNat) (by omega)
  exact gI_t h0 (by rw [hc.1]; exact h1) (by rw [rowIs_at kL hb]; rfl)
theorem CE.aR (hc : CE c N) {i : Nat} (hi : i < N) : aR c i 0 = [] := by
  obtain ⟨b, hb⟩ := hc.at_ hi
  unfold Proofs.YtakljpcmbpaeaaaGreat.aR
  rw [cell_at hb]; rfl
theorem CE.nm (hc : CE c N) : rowsNm c = true := List.all_eq_true.2 fun r hr => by
  obtain ⟨b, rfl⟩ := hc.2 r hr
  cases b <;> rfl
theorem keys_len : (((List.range N).map (keyN j)).map inV).length = N := by rw [List.length_map, List.length_map, List.length_range]
theorem keys_at {i : Nat} (hi : i < N) : aI (((List.range N).map (keyN j)).map inV) i 0 = keyN j i := by
  rw [aI_in (by rw [List.length_map, List.length_range]; exact hi), List.getElem_map, List.getElem_range]
theorem keys_gI {α : Type} {x : Option α} {n : Int} (h0 : 0 ≤ n) (h1 : n < N) : gI (((List.range N).map (keyN j)).map inV) kI n x = x := gI_in h0 (by rw [List.length_map, List.length_range]; exact h1)
theorem given_eq (h2 : N ≤ 16) (hj : j ≤ N) {i : Nat} (hi : i < j) : yA9 L (dvN s c N j) (17 * (i : Int) + 16) = some true := by
  unfold yA9 yKg dvN
  dsimp only
  rw [keys_len, bif_t (decide_eq_true (by omega)), show (17 * (i : Int) + 16).tdiv 16 = (i : Int) + 1 by rw [Int.tdiv_eq_ediv_of_nonneg (by omega)]; omega, w64_t (by omega) (by omega), bif_t (decide_eq_true (by omega)),
    show (17 * (i : Int) + 16).tmod 16 = (i : Int) by rw [Int.tmod_eq_emod_of_nonneg (by omega)]; omega, decide_eq_true (by omega)]
theorem cached_nil (hL : 0 < L) (n : Int) : yEO L [] n = some true := by
  obtain ⟨m, rfl⟩ : ∃ m, L = m + 1 := ⟨L - 1, by omega⟩
  rfl
theorem place_nil (hL : 0 < L) (n : Int) : yFX L [] n = some (-1) := by
  obtain ⟨m, rfl⟩ : ∃ m, L = m + 1 := ⟨L - 1, by omega⟩
  rfl
theorem rchk_eq (hs : SecOk s) (hc : CE c N) (h1 : 1 ≤ N) (h2 : N ≤ 16) (hL : 200000 < L) (hj : j ≤ N) : yBh L (dvN s c N j) = some 0 := by
  have hm := hs.m
  have hn := hs.n
  have hcl := hc.1
  have l0 := fun ka kb => loop2_cnt (α := Int) (F := yCx) (fun k => (dvN s c N j, (k : Int), ())) s.length (dvN s c N j, ()) (fun k hk kn ka kb => by
      unfold yCx dvN
      dsimp only
      have hz := hs.z s[k] (List.getElem_mem hk)
      rw [List.length_map, bif_t (decide_eq_true (by omega)), gI_tx (by omega) (by omega), Int.toNat_natCast, aS_tx hk, bif_f (decide_eq_false (by omega)), w64_t (by omega) (by omega)]
      rfl) (fun kn ka kb => by
      unfold yCx dvN
      dsimp only
      rw [List.length_map, bif_f (decide_eq_false (by omega))]) s.length 0 L (Nat.zero_add _) (by omega) ka kb
  have l1 := fun ka kb => loop2_cnt (α := Int) (F := yCy (yEO L) (yA9 L)) (fun k => (dvN s c N j, (k : Int), ())) N (dvN s c N j, ()) (fun k hk kn ka kb => by
      have hg := fun (h : k < j) => given_eq (s := s) (c := c) (L := L) h2 hj h
      unfold yCy
      dsimp only
      rw [show (dvN s c N j).Keys = ((List.range N).map (keyN j)).map inV from rfl, show (dvN s c N j).Cache = c from rfl, keys_len, bif_t (decide_eq_true (by omega)), hc.gI (by omega) (by omega), Int.toNat_natCast, hc.aR hk, cached_nil (by omega), bindO_s, bif_f (by rfl), keys_gI (by omega) (by omega), keys_at hk]
      by_cases hkj : k < j
      · rw [show keyN j k = 17 * (k : Int) + 16 from if_pos hkj, bif_t (by rw [bne_iff_ne]; omega), keys_gI (by omega) (by omega), hg hkj, bindO_s, bif_f (by rfl), keys_gI (by omega) (by omega),
          show (17 * (k : Int) + 16).tmod 16 = (k : Int) by rw [Int.tmod_eq_emod_of_nonneg (by omega)]; omega, bif_f (by simp), w64_t (by omega) (by omega)]
        rfl
      · rw [show keyN j k = 0 from if_neg hkj, bif_f (by rfl), w64_t (by omega) (by omega)]
        rfl) (fun kn ka kb => by
      unfold yCy
      dsimp only
      rw [show (dvN s c N j).Keys = ((List.range N).map (keyN j)).map inV from rfl, keys_len, bif_f (decide_eq_false (by omega))]) N 0 L (Nat.zero_add _) (by omega) ka kb
  have l2 := fun ka kb => loop2_cnt (α := Int) (F := yFA (yA9 L)) (fun k => (dvN s c N j, (k : Int), ())) 0 () (fun k hk => absurd hk (Nat.not_lt_zero _)) (fun kn ka kb => rfl) 0 0 L rfl (by omega) ka kb
  unfold yBh yKG
  rw [show (dvN s c N j).Keys = ((List.range N).map (keyN j)).map inV from rfl, show (dvN s c N j).Cache = c from rfl, show (dvN s c N j).S = s.map txV from rfl, show (dvN s c N j).Next = (j : Int) + 1 from rfl, keys_len, List.length_map, hcl,
    bif_f (decide_eq_false (by omega)), bif_f (decide_eq_false (by omega)), bif_f (decide_eq_false (by omega)), bif_f (by simp), bif_f (decide_eq_false (by omega)), bif_f (decide_eq_false (by omega))]
  exact (l0 _ _).trans ((l1 _ _).trans (l2 _ _))
theorem copied_eq (hs : SecOk s) (hc : CE c N) (h1 : 1 ≤ N) (h2 : N ≤ 16) (hL : 200000 < L) : yDP L (dvN s c N j) = some (s.map txV, cE N, ((List.range N).map (keyN j)).map inV, (j : Int) + 1, [], ()) := by
  have hm := hs.m
  have hcl := hc.1
  have l0 := fun ka => loop1_cnt (α := (List (List V)) × (List (List V)) × (List (List V)) × Int × (List (List V)) × Unit) (F := yCP) (fun k => (dvN s c N j, yAA.z, (s.map txV, cE k, ((List.range N).map (keyN j)).map inV, (j : Int) + 1, [], ()), (k : Int), ())) N
    (yAA.z, (s.map txV, cE N, ((List.range N).map (keyN j)).map inV, (j : Int) + 1, [], ()), ()) (fun k hk kn ka => by
      unfold yCP
      dsimp only
      have hl : (cE k).length = k := (cE_ok k).1
      have ex : cE (k + 1) = cE k ++ [[V.sl [] false]] := List.replicate_succ'
      have ef : frzR [(16, [])] (cE k ++ [[V.bs 16 0 0 0]]) = cE (k + 1) := by
        rw [ex]
        unfold frzR
        rw [List.map_append]
        congr 1
        unfold cE
        rw [List.map_replicate]; rfl
      have eo : frzOk [(16, [])] (cE k ++ [[V.bs 16 0 0 0]]) = true := by
        unfold frzOk
        rw [List.all_append]
        have : ((cE k).all fun r => r.all (fz1Ok [(16, [])])) = true := List.all_eq_true.2 fun r hr => by rw [List.eq_of_mem_replicate hr]; rfl
        rw [this]; rfl
      rw [show (dvN s c N j).Cache = c from rfl, hcl, bif_t (decide_eq_true (by omega)), hc.gI (by omega) (by omega), Int.toNat_natCast, hc.aR hk, gd_t (by rfl), gM_t (by decide) (by decide), hl, gd_t (by rw [Nat.zero_add]; exact Nat.beq_refl _), gM_t (by omega) (by omega)]
      rw [gW_t rfl (nm_tx _), show (0 + ([] : List (List V)).length) = 0 from rfl, gd_t (by rw [List.length_append, hl]; exact Nat.beq_refl _), gd_t eo, gW_t rfl (nm_in _), gW_t rfl (by rfl), ef, w64_t (by omega) (by omega)]
      rfl) (fun kn ka => by
      unfold yCP
      dsimp only
      rw [show (dvN s c N j).Cache = c from rfl, hcl, bif_f (decide_eq_false (by omega)), gW_t rfl (nm_tx _), gW_t rfl (cE_ok N).nm, gW_t rfl (nm_in _), gW_t rfl (by rfl)]) N 0 L (Nat.zero_add _) (by omega) ka
  unfold yDP yJV
  rw [show (dvN s c N j).Keys = ((List.range N).map (keyN j)).map inV from rfl, show (dvN s c N j).S = s.map txV from rfl, show (dvN s c N j).Next = (j : Int) + 1 from rfl, show (dvN s c N j).Fenced = [] from rfl,
    gd_t (rows_sz 1 fun _ => rfl), gM_t (by rw [List.length_map]; omega) (by rw [List.length_map]; omega), gd_t (rows_sz 1 fun _ => rfl), gM_t (by rw [keys_len]; omega) (by rw [keys_len]; omega), gd_t (by rfl), gM_t (by decide) (by decide),
    gW_t (Nat.zero_add _) (nm_tx _), gW_t (Nat.zero_add _) (nm_in _), gW_t (by rfl) (by rfl)]
  refine (l0 _).trans ?_
  dsimp only
  rw [gW_t rfl (nm_tx _), gW_t rfl (cE_ok N).nm, gW_t rfl (nm_in _), gW_t rfl (by rfl)]
end
end Go.Proofs.YtakljpcmbpaeaaaGreat

namespace Go.Proofs.YtakljpcmbpaeaaaGreat
open Go.RowKit

theorem cS_ok (N j : Nat) : CE ((cE N).set j [V.sl [] true]) N := ⟨by rw [List.length_set]; exact (cE_ok N).1, fun r hr => by
  rcases List.mem_or_eq_of_mem_set hr with q | rfl
  · exact (cE_ok N).2 r q
  · exact ⟨true, rfl⟩⟩
section
variable {s : List ByteArray} {c : List (List V)} {N j L : Nat}
theorem do_p0 (hs : SecOk s) (hc : CE c N) (h1 : 1 ≤ N) (h2 : N ≤ 16) (hL : 200000 < L) (hj : j ≤ N) {n : Int} (n0 : 0 ≤ n) (nN : n < N) {a : yAw} (k1 : 1 ≤ a.Kind) (k2 : a.Kind ≤ 6) {z : yAA} {α : Type} (k0 : _ → Option α) :
    yGv (yBh L) (n, dvN s c N j, a, z, ()) k0 = k0 (n, dvN s c N j, a, z, false, ()) := by
  unfold yGv
  dsimp only
  rw [rchk_eq hs hc h1 h2 hL hj, bindO_s, bif_f (by rfl), bif_f (decide_eq_false (by omega)), show (dvN s c N j).Keys = ((List.range N).map (keyN j)).map inV from rfl, keys_len, bif_f (decide_eq_false (by omega)), bif_f (decide_eq_false (by omega)), decide_eq_false (by omega : ¬ 6 < a.Kind)]
theorem do_p8 (hs : SecOk s) (hc : CE c N) (h1 : 1 ≤ N) (h2 : N ≤ 16) (hL : 200000 < L) {n : Int} {a : yAw} {z : yAA} {α : Type} (k0 : _ → Option α) :
    yGx (yDP L) (n, dvN s c N j, a, z, ()) k0 = k0 (n, a, z, (s.map txV, cE N, ((List.range N).map (keyN j)).map inV, (j : Int) + 1, [], ()), ()) := by
  unfold yGx
  dsimp only
  rw [copied_eq hs hc h1 h2 hL, bindO_s, gW_t rfl (nm_tx _), gW_t rfl (cE_ok N).nm, gW_t rfl (nm_in _), gF_t (by simp) (by simp) (by rfl)]
  rfl
theorem do_p9 (hs : SecOk s) (hc : CE c N) (h1 : 1 ≤ N) (h2 : N ≤ 16) (hL : 200000 < L) {n : Int} {a : yAw} {z : yAA} {α : Type} (k0 : _ → Option α) :
    yGy (yFX L) (n, a, z, (s.map txV, cE N, ((List.range N).map (keyN j)).map inV, (j : Int) + 1, [], ()), [], ()) k0 = k0 (n, a, z, (s.map txV, cE N, ((List.range N).map (keyN j)).map inV, (j : Int) + 1, [], ()), [], -1, ()) := by
  unfold yGy
  dsimp only
  rw [place_nil (by omega), bindO_s, gW_t rfl (nm_tx _), gW_t rfl (cE_ok N).nm, gW_t rfl (nm_in _)]
theorem rdo_reg (hs : SecOk s) (hc : CE c N) (h1 : 1 ≤ N) (h2 : N ≤ 16) (hL : 200000 < L) (hj : j < N) : ∃ b, yIN L (dvN s c N j) j ⟨6, 0, noS, 0⟩ = some (dvN s ((cE N).set j [V.sl [] true]) N (j + 1), b, 0, ()) := by
  have hm := hs.m
  have hcl := (cE_ok N).1
  have hj16 : j < 16 := by omega
  refine ⟨bytesS ((putR [] 6 [17 * (j : Int) + 16]).1.map byV), ?_⟩
  unfold yIN yM8
  rw [do_p0 hs hc h1 h2 hL (by omega) (by omega) (by omega) (by dsimp only; omega) (by dsimp only; omega)]
  rw [show ∀ (α : Type) x ka kb, yIr (α := α) ((j : Int), x, (⟨6, 0, noS, 0⟩ : yAw), yAA.z, false, ()) ka kb = ka ((j : Int), x, ⟨6, 0, noS, 0⟩, yAA.z, ()) from fun _ _ _ _ => rfl]
  rw [show ∀ (α : Type) x ka, yIs (α := α) ((j : Int), x, (⟨6, 0, noS, 0⟩ : yAw), yAA.z, ()) ka = ka ((j : Int), x, ⟨6, 0, noS, 0⟩, yAA.z, false, ()) from fun _ _ _ => rfl]
  have p3 : ∀ (α : Type) (ka : _ → Option α), yGw (yA9 L) ((j : Int), dvN s c N j, (⟨6, 0, noS, 0⟩ : yAw), yAA.z, false, ()) ka = ka ((j : Int), dvN s c N j, ⟨6, 0, noS, 0⟩, yAA.z, false, false, ()) := fun α ka => by
    unfold yGw
    dsimp only
    rw [cond_false, bif_f (by rfl), bif_t (by rfl), show (dvN s c N j).Next = (j : Int) + 1 from rfl, decide_eq_false (by omega : ¬ 68719476736 ≤ (j : Int) + 1)]
  rw [p3]
  rw [show ∀ (α : Type) x ka kb, yIt (α := α) ((j : Int), x, (⟨6, 0, noS, 0⟩ : yAw), yAA.z, false, false, ()) ka kb = ka ((j : Int), x, ⟨6, 0, noS, 0⟩, yAA.z, false, ()) from fun _ _ _ _ => rfl]
  rw [show ∀ (α : Type) f x ka kb, yIu (α := α) f ((j : Int), x, (⟨6, 0, noS, 0⟩ : yAw), yAA.z, false, ()) ka kb = ka ((j : Int), x, ⟨6, 0, noS, 0⟩, yAA.z, false, ()) from fun _ _ _ _ _ => rfl]
  rw [show ∀ (α : Type) x ka, yIv (α := α) ((j : Int), x, (⟨6, 0, noS, 0⟩ : yAw), yAA.z, false, ()) ka = ka ((j : Int), x, ⟨6, 0, noS, 0⟩, yAA.z, false, ()) from fun _ _ _ => rfl]
  rw [show ∀ (α : Type) x ka kb, yIw (α := α) ((j : Int), x, (⟨6, 0, noS, 0⟩ : yAw), yAA.z, false, ()) ka kb = ka ((j : Int), x, ⟨6, 0, noS, 0⟩, yAA.z, ()) from fun _ _ _ _ => rfl]
  rw [do_p8 hs hc h1 h2 hL]
  dsimp only
  have hk : j < ((List.range N).map (keyN j)).length := by rw [List.length_map, List.length_range]; exact hj
  have hgk : (((List.range N).map (keyN j)).map inV).getD j [] = inV (keyN j j) := by
    rw [getDr_at (map_at hk), List.getElem_map, List.getElem_range]
  have hgc : (cE N).getD j [] = [V.sl [] false] := getDr_at (by unfold cE; rw [List.getElem?_replicate, if_pos hj])
  have ek : (((List.range N).map (keyN j)).map inV).set j (((((List.range N).map (keyN j)).map inV).getD j []).take 0 ++ ([V.int .i64 (17 * (j : Int) + 16)] ++ ((((List.range N).map (keyN j)).map inV).getD j []).drop 1)) = ((List.range N).map (keyN (j + 1))).map inV := by
    rw [hgk]
    show (((List.range N).map (keyN j)).map inV).set j (inV (17 * (j : Int) + 16)) = _
    rw [← List.map_set]
    congr 1
    refine List.ext_getElem (by rw [List.length_set, List.length_map, List.length_map]) fun i q1 q2 => ?_
    rw [List.getElem_set, List.getElem_map, List.getElem_map, List.getElem_range]
    unfold keyN
    by_cases e : j = i
    · rw [if_pos e, if_pos (by omega), e]
    · rw [if_neg e]
      by_cases e2 : i < j
      · rw [if_pos e2, if_pos (by omega)]
      · rw [if_neg e2, if_neg (by omega)]
  have ec : (cE N).set j (((cE N).getD j []).take 0 ++ ([V.sl [] true] ++ ((cE N).getD j []).drop 1)) = (cE N).set j [V.sl [] true] := by rw [hgc]; rfl
  have ew : w64 (w64 (16 * ((j : Int) + 1)) + (j : Int)) = 17 * (j : Int) + 16 := by
    rw [w64_t (n := 16 * ((j : Int) + 1)) (by omega) (by omega), w64_t (by omega) (by omega)]; omega
  have hce := cS_ok N j
  have hP := rPut_eq (L := L) (by omega) (b := []) (l := [17 * (j : Int) + 16]) 6 (by simp) (by simp; omega)
  have hP : yBZ L [] 6 [[V.int .i64 (17 * (j : Int) + 16)]] = some ((putR [] 6 [17 * (j : Int) + 16]).1.map byV, (putR [] 6 [17 * (j : Int) + 16]).2, ()) := hP
  rw [hcl, gB_t (by omega) (by omega), Nat.zero_add, Int.toNat_natCast, gL_t (by rw [hcl]; exact hj) (by obtain ⟨b, hb⟩ := (cE_ok N).at_ hj; rw [segIs_at hb]; rfl), gW_t rfl (nm_tx _), gW_t hcl.symm (cE_ok N).nm, gW_t rfl (nm_in _), (cE_ok N).aR hj, do_p9 hs hc h1 h2 hL]
  dsimp only
  rw [bif_f (by rfl), bif_f (by rfl), bif_f (by rfl), bif_f (by rfl), bif_f (by rfl), bif_t (by rfl), keys_len, gB_t (by omega) (by omega), Nat.zero_add, Int.toNat_natCast, gd_t (decide_eq_true hj), gd_t (by rfl), gd_t (by rw [hgk]; rfl), hcl, gB_t (by omega) (by omega), gd_t (decide_eq_true hj), gd_t (by rfl), gd_t (by rw [hgc]; rfl), gB_t (by omega) (by omega), ew, ek, ec,
    gL_t (by rw [keys_len]; exact hj) (by rw [segIs_at (map_at (by rw [List.length_map, List.length_range]; exact hj))]; rfl), keys_at hj, show keyN (j + 1) j = 17 * (j : Int) + 16 by unfold keyN; rw [if_pos (by omega)], hP, bindO_s]
  dsimp only
  rw [gd_t (Nat.ble_eq_true_of_le (by omega)), List.take_length, gd_t (bytesOf_is _), Nat.zero_add, gF_t (by omega) (by rw [List.length_map]; omega) (nm_tx _), Nat.zero_add, gF_t (by rw [hce.1]; omega) (by omega) hce.nm, gF_t (by rw [keys_len]; omega) (by omega) (nm_in _)]
  rw [List.take_length, List.take_of_length_le (by rw [hce.1]; omega), List.take_of_length_le (by rw [keys_len]; omega), w64_t (by omega) (by omega)]
  rfl
end
def cAll (N : Nat) : List (List V) := (cE N).set (N - 1) [V.sl [] true]
theorem cAll_ok (N : Nat) : CE (cAll N) N := cS_ok N (N - 1)
abbrev dvF (s : List ByteArray) (N : Nat) : yAA := dvN s (cAll N) N N
theorem rnew_eq {L N : Nat} {s : List ByteArray} (hs : SecOk s) (h1 : 1 ≤ N) (h2 : N ≤ 16) (hL : 200000 < L) : ∃ c, CE c N ∧ yLO L N (s.map txV) = some (dvN s c N 0, 0, ()) := by
  have hm := hs.m
  have hc : CE (List.replicate N [V.sl [] true]) N := ⟨List.length_replicate .., fun r hr => ⟨true, List.eq_of_mem_replicate hr⟩⟩
  refine ⟨_, hc, ?_⟩
  have ek : List.replicate N [V.int .i64 0] = ((List.range N).map (keyN 0)).map inV := by
    refine List.ext_getElem (by simp) fun i h3 h4 => ?_
    simp [keyN, inV]
  have hck := rchk_eq (j := 0) hs hc h1 h2 hL (Nat.zero_le _)
  unfold yLO yMF
  rw [bif_f (decide_eq_false (by omega)), bif_f (decide_eq_false (by omega)), gd_t (rows_sz 1 fun _ => rfl), gM_t (by rw [List.length_map]; omega) (by rw [List.length_map]; omega), Int.toNat_natCast,
    gd_t (decide_eq_true (by omega)), gd_t (decide_eq_true (by omega)), gd_t (decide_eq_true (by omega)), gd_t (decide_eq_true (by omega)), gd_t (decide_eq_true (by omega)), gd_t (decide_eq_true (by omega)), gd_t (decide_eq_true (by omega)), gd_t (decide_eq_true (by omega)),
    gF_t (by rw [List.length_map]; omega) (by rw [List.length_map]; omega) (nm_tx _), gF_t (by rw [hc.1]; omega) (by omega) hc.nm, ek, gF_t (by rw [keys_len]; omega) (by omega) (nm_in _),
    List.take_of_length_le (by rw [List.length_map]; omega), List.take_of_length_le (by rw [hc.1]; omega), List.take_of_length_le (by rw [keys_len]; omega)]
  show (bindO (yBh L (dvN s (List.replicate N [V.sl [] true]) N 0)) _) = _
  rw [hck, bindO_s, bif_f (by rfl), gF_t (by rw [List.length_map]; omega) (by rw [List.length_map]; omega) (nm_tx _), gF_t (by rw [hc.1]; omega) (by omega) hc.nm, gF_t (by rw [keys_len]; omega) (by omega) (nm_in _)]
  rfl
end Go.Proofs.YtakljpcmbpaeaaaGreat

namespace Go.Proofs.YtakljpcmbpaeaaaGreat
open Go.RowKit

section
variable {s : List ByteArray} {c : List (List V)} {N j L : Nat}
theorem dgiven_eq (h2 : N ≤ 16) (hj : j ≤ N) {i : Nat} (hi : i < j) : yAa L ⟨dvN s c N j⟩ (17 * (i : Int) + 16) = some true := given_eq (L := L) h2 hj hi
theorem dcache_nil (hL : 0 < L) (w : yAC) : yBf L w [] = some true := by
  obtain ⟨m, rfl⟩ : ∃ m, L = m + 1 := ⟨L - 1, by omega⟩
  rfl
theorem idxc_nil (hL : 0 < L) (k : Int) : yAS L [] ((k, ()), ()) = some (-1) := by
  obtain ⟨m, rfl⟩ : ∃ m, L = m + 1 := ⟨L - 1, by omega⟩
  rfl
theorem short_eq {l : List ByteArray} (hl : l.length < L) (hl2 : l.length ≤ 1000000) (hz : ∀ x ∈ l, x.size ≤ 512) : yDK L (l.map txV) = some true := by
  have l0 := fun ka kb => loop2_cnt (α := Int) (F := yAL) (fun k => (l.map txV, (), (l.length : Int), (k : Int), ())) l.length () (fun k hk kn ka kb => by
      unfold yAL
      dsimp only
      have hz := hz l[k] (List.getElem_mem hk)
      rw [bif_t (decide_eq_true (by omega)), gI_tx (by omega) (by omega), Int.toNat_natCast, aS_tx hk, bif_f (decide_eq_false (by omega)), w64_t (by omega) (by omega)]
      rfl) (fun kn ka kb => by
      unfold yAL
      dsimp only
      rw [bif_f (decide_eq_false (by omega))]) l.length 0 L (Nat.zero_add _) hl ka kb
  have e : yAo L (l.map txV) () = some (-1) := by
    unfold yAo yBL
    rw [List.length_map]
    exact l0 _ _
  unfold yDK yJL yAt yBC
  rw [e]; rfl
theorem dmay_eq (hs : SecOk s) (hc : CE c N) (h1 : 1 ≤ N) (h2 : N ≤ 16) (hL : 200000 < L) (hj : j ≤ N) : yB6 L ⟨dvN s c N j⟩ = some true := by
  have hm := hs.m
  have hn := hs.n
  have hcl := hc.1
  have l0 := fun ka kb => loop2_cnt (α := Bool) (F := yBU (yBf L) (yAa L)) (fun k => ((⟨dvN s c N j⟩ : yAC), ((List.range N).map (keyN j)).map inV, (N : Int), (k : Int), ())) N ((⟨dvN s c N j⟩ : yAC), ()) (fun k hk kn ka kb => by
      have hg := fun (h : k < j) => dgiven_eq (s := s) (c := c) (L := L) h2 hj h
      unfold yBU
      dsimp only
      rw [show (dvN s c N j).Cache = c from rfl, bif_t (decide_eq_true (by omega)), keys_gI (by omega) (by omega), hc.gI (by omega) (by omega), Int.toNat_natCast, hc.aR hk, dcache_nil (by omega), bindO_s, bif_f (by rfl), keys_at hk]
      by_cases hkj : k < j
      · rw [show keyN j k = 17 * (k : Int) + 16 from if_pos hkj, bif_t (by rw [bne_iff_ne]; omega), hg hkj, bindO_s, bif_f (by rfl),
          show (17 * (k : Int) + 16).tmod 16 = (k : Int) by rw [Int.tmod_eq_emod_of_nonneg (by omega)]; omega, bif_f (by simp), w64_t (by omega) (by omega)]
        rfl
      · rw [show keyN j k = 0 from if_neg hkj, bif_f (by rfl), w64_t (by omega) (by omega)]
        rfl) (fun kn ka kb => by
      unfold yBU
      dsimp only
      rw [bif_f (decide_eq_false (by omega))]) N 0 L (Nat.zero_add _) (by omega) ka kb
  have l1 := fun ka kb => loop2_cnt (α := Bool) (F := yCN (yAa L)) (fun k => ((⟨dvN s c N j⟩ : yAC), (0 : Int), ([] : List (List V)), (0 : Int), (k : Int), ())) 0 () (fun k hk => absurd hk (Nat.not_lt_zero _)) (fun kn ka kb => rfl) 0 0 L rfl (by omega) ka kb
  unfold yB6 yF9
  dsimp only
  rw [show (dvN s c N j).Keys = ((List.range N).map (keyN j)).map inV from rfl, show (dvN s c N j).Cache = c from rfl, show (dvN s c N j).S = s.map txV from rfl, show (dvN s c N j).Next = (j : Int) + 1 from rfl, keys_len, List.length_map, hcl,
    bif_f (by rw [beq_eq_false_iff_ne]; omega), short_eq (by omega) (by omega) hs.z, bindO_s, bif_f (by rfl), bif_f (by rw [beq_eq_false_iff_ne]; omega), bif_f (decide_eq_false (by omega)), bif_f (by simp), bif_f (decide_eq_false (by omega)), bif_f (decide_eq_false (by omega))]
  refine (l0 _ _).trans ?_
  dsimp only
  exact l1 _ _
theorem dchk_eq (hs : SecOk s) (hc : CE c N) (h1 : 1 ≤ N) (h2 : N ≤ 16) (hL : 200000 < L) (hj : j ≤ N) : yFe L (dvN s c N j) = some 0 := by
  unfold yFe yJJ
  rw [dmay_eq hs hc h1 h2 hL hj]; rfl
theorem dfen_eq (hs : SecOk s) (hc : CE c N) (h1 : 1 ≤ N) (h2 : N ≤ 16) (hL : 200000 < L) (hn : 0 < N) {n : Int} (n0 : 0 ≤ n) (nN : n < N) : yCM L ⟨dvN s c N N⟩ n = some false := by
  obtain ⟨i, rfl⟩ := Int.eq_ofNat_of_zero_le n0
  have hi : i < N := by omega
  have hC : ∀ x, yA4 L [] x = some false := fun x => by
    obtain ⟨m, rfl⟩ : ∃ m, L = m + 1 := ⟨L - 1, by omega⟩
    rfl
  have l0 := fun ka kb => loop2_cnt (α := Int) (F := yAk (yA4 L)) (fun k => ([[V.int .i64 (keyN N i)]], (dvN s c N N, ()), (1 : Int), (k : Int), ())) 1 () (fun k hk kn ka kb => by
      obtain rfl : k = 0 := by omega
      unfold yAk
      dsimp only
      rw [bif_t (by rfl), gI_t (by omega) (by simp) (by rfl), show aI [[V.int .i64 (keyN N i)]] ((0 : Nat) : Int).toNat 0 = keyN N i from rfl, bif_f (decide_eq_false (by unfold keyN; rw [if_pos hi]; omega)), show (dvN s c N N).Fenced = [] from rfl, hC, bindO_s, bif_f (by rfl)]
      rfl) (fun kn ka kb => rfl) 1 0 L rfl (by omega) ka kb
  have e : yBT L [[V.int .i64 (keyN N i)]] (dvN s c N N, ()) = some (-1) := l0 _ _
  unfold yCM yEA yII yIf yBF yBb
  dsimp only
  rw [show (dvN s c N N).Keys = ((List.range N).map (keyN N)).map inV from rfl, keys_gI (by omega) (by omega), Int.toNat_natCast, keys_at hi, e]; rfl
theorem dnode_eq (hs : SecOk s) (hc : CE c N) (h1 : 1 ≤ N) (h2 : N ≤ 16) (hL : 200000 < L) {n : Int} (n0 : 0 ≤ n) (nN : n < N) : yC6 L ⟨dvN s c N N⟩ n = some true := by
  unfold yC6 yFU
  dsimp only
  rw [bif_t (decide_eq_true n0), show (dvN s c N N).Keys = ((List.range N).map (keyN N)).map inV from rfl, keys_len, decide_eq_true nN]
theorem dref_1 (hs : SecOk s) (hc : CE c N) (h1 : 1 ≤ N) (h2 : N ≤ 16) (hL : 200000 < L) {n : Int} (n0 : 0 ≤ n) (nN : n < N) {k : Int} (k0 : 0 ≤ k) (kl : k < s.length) : yBK L ⟨dvN s c N N⟩ n ⟨1, k, noS, 0⟩ = some 0 := by
  unfold yBK yCS
  dsimp only
  rw [dmay_eq hs hc h1 h2 hL (Nat.le_refl _), bindO_s, bif_f (by rfl), dnode_eq hs hc h1 h2 hL n0 nN, bindO_s, bif_f (by rfl), dfen_eq hs hc h1 h2 hL (by omega) n0 nN]
  show (bif decide (k < 0) then some (60 : Int) else bif decide (((s.map txV).length : Int) ≤ k) then some 60 else some 0) = some 0
  rw [bif_f (decide_eq_false (by omega)), List.length_map, bif_f (decide_eq_false (by omega))]
theorem dref_2 (hs : SecOk s) (hc : CE c N) (h1 : 1 ≤ N) (h2 : N ≤ 16) (hL : 200000 < L) {n : Int} (n0 : 0 ≤ n) (nN : n < N) {k : Int} (k0 : 0 ≤ k) (kl : k < s.length) {b : ByteArray} (hb : b.size ≤ 512) : yBK L ⟨dvN s c N N⟩ n ⟨2, k, b, 0⟩ = some 0 := by
  have hb' := short_eq (l := [b]) (L := L) (by simp; omega) (by simp) (fun x hx => by rw [List.mem_singleton.1 hx]; exact hb)
  have hb' : yDK L [[V.str b]] = some true := hb'
  unfold yBK yCS
  dsimp only
  rw [dmay_eq hs hc h1 h2 hL (Nat.le_refl _), bindO_s, bif_f (by rfl), dnode_eq hs hc h1 h2 hL n0 nN, bindO_s, bif_f (by rfl), dfen_eq hs hc h1 h2 hL (by omega) n0 nN, hb']
  show (bif decide (k < 0) then some (60 : Int) else bif decide (((s.map txV).length : Int) ≤ k) then some 60 else some 0) = some 0
  rw [bif_f (decide_eq_false (by omega)), List.length_map, bif_f (decide_eq_false (by omega))]
theorem dwrite_eq (hs : SecOk s) (hc : CE c N) (h1 : 1 ≤ N) (h2 : N ≤ 16) (hL : 200000 < L) {k : Int} (k0 : 0 ≤ k) (kl : k < s.length) {b : ByteArray} : yCh L ⟨dvN s c N N⟩ [[V.int .i64 k, V.str b]] = some ((), ⟨dvN (s.set k.toNat b) c N N⟩) := by
  have hm := hs.m
  obtain ⟨v, rfl⟩ := Int.eq_ofNat_of_zero_le k0
  have hv : v < s.length := by omega
  have es : (s.map txV).set v (((s.map txV).getD v []).take 0 ++ ([V.str b] ++ ((s.map txV).getD v []).drop 1)) = (s.set v b).map txV := by
    rw [List.map_set, getDr_at (map_at hv)]; rfl
  have eC : slices_Clone_Str L (s.map txV) = some (s.map txV) := by
    unfold slices_Clone_Str clR
    rw [rows_sz 1 (fun _ => rfl), List.length_map, Nat.ble_eq_true_of_le (by omega), nm_tx]
    rfl
  have l0 := fun ka => loop1_cnt (α := Unit × yAC) (F := yBH) (fun q => (((if q = 0 then s else s.set v b).map txV, c, ((List.range N).map (keyN N)).map inV, (N : Int) + 1, [], ()), [[V.int .i64 (v : Int), V.str b]], (1 : Int), (q : Int), ())) 1
    (((s.set v b).map txV, c, ((List.range N).map (keyN N)).map inV, (N : Int) + 1, [], ()), ()) (fun q hq kn ka => by
      obtain rfl : q = 0 := by omega
      unfold yBH
      dsimp only
      rw [if_pos rfl, bif_t (by rfl), gI_t (by omega) (by simp) (by rfl), show aI [[V.int .i64 (v : Int), V.str b]] ((0 : Nat) : Int).toNat 0 = (v : Int) from rfl, show aS [[V.int .i64 (v : Int), V.str b]] ((0 : Nat) : Int).toNat 1 = b from rfl, List.length_map, gB_t (by omega) (by omega), Nat.zero_add, Int.toNat_natCast, gd_t (decide_eq_true hv), gd_t (by rfl), gd_t (by rw [getDr_at (map_at hv)]; rfl), es, gW_t (by rw [List.length_map, List.length_set]) (nm_tx _)]
      rfl) (fun kn ka => by
      unfold yBH
      dsimp only
      rw [bif_f (by rfl), if_neg (by omega), gW_t rfl (nm_tx _)]) 1 0 L rfl (by omega) ka
  unfold yCh yE0
  dsimp only
  rw [show (dvN s c N N).S = s.map txV from rfl, eC, bindO_s, gW_t rfl (nm_tx _)]
  refine (l0 _).trans ?_
  dsimp only
  rw [Nat.zero_add, gF_t (Nat.le_refl _) (by rw [List.length_map, List.length_set]; omega) (nm_tx _), List.take_length]
  rfl
theorem dcut_eq (hs : SecOk s) (hc : CE c N) (h1 : 1 ≤ N) (h2 : N ≤ 16) (hL : 200000 < L) {n : Int} (n0 : 0 ≤ n) (nN : n < N) : slices_Clone_Cell L (aR c n.toNat 0) = some [] := by
  rw [hc.aR (by omega)]; rfl
theorem ddo_read (hs : SecOk s) (hc : CE c N) (h1 : 1 ≤ N) (h2 : N ≤ 16) (hL : 200000 < L) {n : Int} (n0 : 0 ≤ n) (nN : n < N) {k : Int} (k0 : 0 ≤ k) (kl : k < s.length) : yD9 L (dvN s c N N) n ⟨1, k, noS, 0⟩ = some (dvN s c N N, s.getD k.toNat noS, 0, ()) := by
  unfold yD9 yJz
  dsimp only
  rw [dref_1 hs hc h1 h2 hL n0 nN k0 kl, bindO_s, bif_f (by rfl), show (dvN s c N N).Cache = c from rfl, hc.gI n0 nN, dcut_eq hs hc h1 h2 hL n0 nN, bindO_s, gF_t (by simp) (by simp) (by rfl)]
  show (bindO (yAS L [] ((k, ()), ())) _) = _
  rw [idxc_nil (by omega), bindO_s, bif_t (by rfl), show (dvN s c N N).S = s.map txV from rfl, gI_tx k0 kl, bif_f (by rfl), aS_tx (by omega : k.toNat < s.length), List.getD_eq_getElem?_getD, List.getElem?_eq_getElem (by omega)]
  rfl
theorem ddo_force (hs : SecOk s) (hc : CE c N) (h1 : 1 ≤ N) (h2 : N ≤ 16) (hL : 200000 < L) {n : Int} (n0 : 0 ≤ n) (nN : n < N) {k : Int} (k0 : 0 ≤ k) (kl : k < s.length) {b : ByteArray} (hb : b.size ≤ 512) : yD9 L (dvN s c N N) n ⟨2, k, b, 0⟩ = some (dvN (s.set k.toNat b) c N N, noS, 0, ()) := by
  unfold yD9 yJz
  dsimp only
  rw [dref_2 hs hc h1 h2 hL n0 nN k0 kl hb, bindO_s, bif_f (by rfl), show (dvN s c N N).Cache = c from rfl, hc.gI n0 nN, dcut_eq hs hc h1 h2 hL n0 nN, bindO_s, gF_t (by simp) (by simp) (by rfl)]
  show (bindO (yAS L [] ((k, ()), ())) _) = _
  rw [idxc_nil (by omega), bindO_s, bif_f (by rfl), bif_t (by rfl), dwrite_eq hs hc h1 h2 hL k0 kl, bindO_s, bif_f (by rfl)]
end
end Go.Proofs.YtakljpcmbpaeaaaGreat

namespace Go.Proofs.YtakljpcmbpaeaaaGreat
open Go.RowKit

abbrev BigL (L : Nat) : Prop := NeZero (L / 200001)
theorem BigL.h {L : Nat} [k : BigL L] : 200000 < L := by
  have := k.out
  rcases Nat.lt_or_ge 200000 L with h | h
  · exact h
  · exact absurd (Nat.div_eq_of_lt (by omega)) this
theorem hL10 {L : Nat} [BigL L] : 10 < L := Nat.lt_of_le_of_lt (by decide) BigL.h
theorem hL3 {L : Nat} [BigL L] : 1000 < L := Nat.lt_of_le_of_lt (by decide) BigL.h
theorem gF_by {α : Type} {x : Option α} {b : Bs} (h : b.length ≤ 2000000) : gF (b.map byV) (b.map byV).length x = x := gF_t (Nat.le_refl _) (by rw [List.length_map]; omega) (nm_by b)
theorem ble_self (n : Nat) : Nat.ble n n = true := Nat.ble_eq_true_of_le (Nat.le_refl n)
end Go.Proofs.YtakljpcmbpaeaaaGreat

namespace Go.Proofs.YtakljpcmbpaeaaaGreat
open Go.RowKit

abbrev keyP (k : Int) : Prop := 16 ≤ k ∧ k ≤ 1099511627776
def MayC (c : yAF) : Prop := keyP c.By ∧ 1 ≤ c.Serial ∧ c.Serial ≤ 2147483648 ∧
  (((c.Kind = 0 ∨ c.Kind = 1) ∧ c.Span.Lo = 0 ∧ c.Span.Hi = 0 ∧ c.Mode = 0 ∧ c.Dead = 0 ∧ c.Was = 0) ∨
   (c.Kind = 2 ∧ 0 ≤ c.Span.Lo ∧ c.Span.Lo ≤ c.Span.Hi ∧ c.Span.Hi < 64 ∧ (c.Mode = 1 ∨ c.Mode = 2) ∧ c.Dead = 0 ∧ c.Was = 0) ∨
   (c.Kind = 3 ∧ 0 ≤ c.Span.Lo ∧ c.Span.Lo ≤ c.Span.Hi ∧ c.Span.Hi < 64 ∧ c.Mode = 0 ∧ c.Dead = 0 ∧ c.Was = 0) ∨
   (c.Kind = 4 ∧ c.Span.Lo = 0 ∧ c.Span.Hi = 0 ∧ c.Mode = 0 ∧ keyP c.Dead ∧ (c.Was = 0 ∨ keyP c.Was)) ∨
   (c.Kind = 5 ∧ c.Span.Lo = 0 ∧ c.Span.Hi = 0 ∧ c.Mode = 0 ∧ keyP c.Dead ∧ c.Was = 0))
instance (c : yAF) : Decidable (MayC c) := by unfold MayC; exact inferInstance
theorem bindO_id {α : Type} {o : Option α} : (bindO o fun r => some r) = o := by cases o <;> rfl
theorem eq_bif {α : Type} {c : Bool} {x y z : α} (h1 : c = true → x = z) (h2 : c = false → y = z) : (bif c then x else y) = z := by
  cases c with
  | true => exact h1 rfl
  | false => exact h2 rfl
theorem some_dec {p : Prop} {inst : Decidable p} {b : Bool} (h : b = true ↔ p) : some b = some (decide p) := by
  congr 1
  cases b with
  | true => exact (decide_eq_true (h.1 rfl)).symm
  | false => exact (decide_eq_false fun q => by have := h.2 q; cases this).symm
theorem cKey_eq {L : Nat} (k : Int) : yFS L k = some (decide (keyP k)) := by
  unfold yFS yJx
  repeat' (refine eq_bif (fun _ => ?_) (fun _ => ?_))
  all_goals (refine some_dec ?_; simp only [decide_eq_true_eq, decide_eq_false_iff_not] at *; (try simp only [Bool.false_eq_true, false_iff]); unfold keyP; omega)
theorem rKey_eq {L : Nat} (k : Int) : yLR L k = some (decide (keyP k)) := by
  unfold yLR yMI
  repeat' (refine eq_bif (fun _ => ?_) (fun _ => ?_))
  all_goals (refine some_dec ?_; simp only [decide_eq_true_eq, decide_eq_false_iff_not] at *; (try simp only [Bool.false_eq_true, false_iff]); unfold keyP; omega)
set_option maxHeartbeats 4000000 in
theorem cMay_eq {L : Nat} (c : yAF) : yId L c = some (decide (MayC c)) := by
  unfold yId yJy yEa yFT
  obtain ⟨kd, by_, ser, dd, ws, ⟨lo, hi⟩, md⟩ := c
  simp only [cKey_eq, bindO_s, bindO_id]
  unfold MayC keyP
  dsimp only
  repeat' (refine eq_bif (fun _ => ?_) (fun _ => ?_))
  all_goals (refine some_dec ?_; simp only [decide_eq_true_eq, beq_iff_eq, Bool.and_eq_true, Bool.not_eq_true', decide_eq_false_iff_not, Bool.and_true, beq_eq_false_iff_ne, ne_eq, Bool.not_eq_false', Bool.and_eq_false_imp] at *; (try simp only [Bool.false_eq_true, false_iff, true_iff]); omega)
set_option maxHeartbeats 4000000 in
theorem r10May_eq {L : Nat} (c : yAF) : yLS L c = some (decide (MayC c)) := by
  unfold yLS yMJ
  obtain ⟨kd, by_, ser, dd, ws, ⟨lo, hi⟩, md⟩ := c
  simp only [rKey_eq, bindO_s]
  unfold MayC keyP
  dsimp only
  repeat' (refine eq_bif (fun _ => ?_) (fun _ => ?_))
  all_goals (refine some_dec ?_; simp only [decide_eq_true_eq, beq_iff_eq, Bool.and_eq_true, Bool.not_eq_true', decide_eq_false_iff_not, Bool.and_true, beq_eq_false_iff_ne, ne_eq, Bool.not_eq_false', Bool.and_eq_false_imp, beq_self_eq_true, Bool.true_and, not_and] at *; (try simp only [Bool.false_eq_true, false_iff, true_iff]); omega)
theorem mkS_l (l : Bs) : (mkS l).data.toList = l := by simp [mkS]
theorem mkS_n (l : Bs) : (mkS l).size = l.length := by simp [mkS, ByteArray.size]
theorem nGet_mk {L : Nat} (hL : 10 < L) {l : Bs} {a w : Int} (h : l.length ≤ 1000000) : yBQ L (mkS l) a w = some ((getS l a w).1, (getS l a w).2, ()) := by
  rw [num_Get_eq hL (by rw [mkS_n]; omega), mkS_l]
theorem rGet_mk {L : Nat} (hL : 10 < L) {l : Bs} {a w : Int} (h : l.length ≤ 1000000) : yBr L (mkS l) a w = some ((getS l a w).1, (getS l a w).2, ()) := by
  rw [rGet_eq hL (by rw [mkS_n]; omega), mkS_l]
theorem fitsN_of {n : Int} {w : Nat} (h1 : 1 ≤ w) (h6 : w ≤ 6) (h0 : 0 ≤ n) (hn : n ≤ mostW w) : fitsB n w = true := by
  unfold fitsB
  exact decide_eq_true ⟨by omega, by omega, h0, by rw [Int.toNat_natCast]; exact hn⟩
theorem nGet_le {L w : Nat} (hL : 10 < L) {n : Int} {t : Bs} (h1 : 1 ≤ w) (h6 : w ≤ 6) (h0 : 0 ≤ n) (hn : n ≤ mostW w) (ht : t.length ≤ 1000) : yBQ L (mkS (leBytes w n.toNat ++ t)) 0 w = some (n, 0, ()) := by
  rw [nGet_mk hL (by rw [List.length_append, leBytes_length]; omega)]
  have := getS_put n w t (fitsN_of h1 h6 h0 hn)
  rw [Int.toNat_natCast] at this
  rw [this]
theorem ext_le {w n : Nat} {t : Bs} : (mkS (leBytes w n ++ t)).extract w (mkS (leBytes w n ++ t)).size = mkS t := by
  rw [extract_end, mkS_l, List.drop_left' (leBytes_length w n)]
theorem size_le {w n : Nat} {t : Bs} : ((mkS (leBytes w n ++ t)).size : Int) = w + (t.length : Int) := by
  rw [mkS_n, List.length_append, leBytes_length]; omega
theorem most1 : mostW 1 = 255 := by decide
theorem most4 : mostW 4 = 4294967295 := by decide
theorem most6 : mostW 6 = 1099511627776 := by decide
def cmdT (c : yAF) : Bs :=
  if c.Kind = 2 then leBytes 1 c.Span.Lo.toNat ++ (leBytes 1 c.Span.Hi.toNat ++ (leBytes 1 c.Mode.toNat ++ []))
  else if c.Kind = 3 then leBytes 1 c.Span.Lo.toNat ++ (leBytes 1 c.Span.Hi.toNat ++ [])
  else if c.Kind = 4 then leBytes 6 c.Dead.toNat ++ (leBytes 6 c.Was.toNat ++ [])
  else if c.Kind = 5 then leBytes 6 c.Dead.toNat ++ []
  else []
def cmdL (c : yAF) : Bs := leBytes 1 c.Kind.toNat ++ (leBytes 6 c.By.toNat ++ (leBytes 4 c.Serial.toNat ++ cmdT c))
theorem cmdT_len (c : yAF) : (cmdT c).length ≤ 12 := by
  unfold cmdT
  repeat' split
  all_goals simp [leBytes_length]
theorem cmdL_len (c : yAF) : (cmdL c).length = 11 + (cmdT c).length := by
  unfold cmdL
  simp only [List.length_append, leBytes_length]; omega
set_option maxHeartbeats 4000000 in
theorem cRead_enc {L : Nat} (hL : 10 < L) {c : yAF} (h : MayC c) : yAl L (mkS (cmdL c)) = some (c, 0, ()) := by
  have hm := cMay_eq (L := L) c
  rw [decide_eq_true h] at hm
  have ht := cmdT_len c
  obtain ⟨⟨h1, h2⟩, h3, h4, h5⟩ := h
  have hk : 0 ≤ c.Kind ∧ c.Kind ≤ 5 := by omega
  have g1 : yBQ L (mkS (cmdL c)) 0 1 = some (c.Kind, 0, ()) := nGet_le hL (w := 1) (by omega) (by omega) hk.1 (by rw [most1]; omega) (by simp only [List.length_append, leBytes_length]; omega)
  have e1 : (mkS (cmdL c)).extract 1 (mkS (cmdL c)).size = mkS (leBytes 6 c.By.toNat ++ (leBytes 4 c.Serial.toNat ++ cmdT c)) := ext_le
  have z1 : decide ((1 : Int) ≤ ((mkS (cmdL c)).size : Int)) = true := decide_eq_true (by rw [mkS_n, cmdL_len]; omega)
  have g2 : yBQ L (mkS (leBytes 6 c.By.toNat ++ (leBytes 4 c.Serial.toNat ++ cmdT c))) 0 6 = some (c.By, 0, ()) := nGet_le hL (w := 6) (by omega) (by omega) (by omega) (by rw [most6]; omega) (by simp only [List.length_append, leBytes_length]; omega)
  have e2 : (mkS (leBytes 6 c.By.toNat ++ (leBytes 4 c.Serial.toNat ++ cmdT c))).extract 6 (mkS (leBytes 6 c.By.toNat ++ (leBytes 4 c.Serial.toNat ++ cmdT c))).size = mkS (leBytes 4 c.Serial.toNat ++ cmdT c) := ext_le
  have z2 : decide ((6 : Int) ≤ ((mkS (leBytes 6 c.By.toNat ++ (leBytes 4 c.Serial.toNat ++ cmdT c))).size : Int)) = true := decide_eq_true (by rw [size_le]; omega)
  have g3 : yBQ L (mkS (leBytes 4 c.Serial.toNat ++ cmdT c)) 0 4 = some (c.Serial, 0, ()) := nGet_le hL (w := 4) (by omega) (by omega) (by omega) (by rw [most4]; omega) (by omega)
  have e3 : (mkS (leBytes 4 c.Serial.toNat ++ cmdT c)).extract 4 (mkS (leBytes 4 c.Serial.toNat ++ cmdT c)).size = mkS (cmdT c) := ext_le
  have z3 : decide ((4 : Int) ≤ ((mkS (leBytes 4 c.Serial.toNat ++ cmdT c)).size : Int)) = true := decide_eq_true (by rw [size_le]; omega)
  have hw : IntKind.i8.wrap (minI false c.Kind 127) = c.Kind := by
    obtain ⟨q1, q2⟩ := hk
    generalize c.Kind = k at *
    obtain ⟨n, rfl⟩ := Int.eq_ofNat_of_zero_le q1
    have : n = 0 ∨ n = 1 ∨ n = 2 ∨ n = 3 ∨ n = 4 ∨ n = 5 := by omega
    rcases this with rfl | rfl | rfl | rfl | rfl | rfl <;> rfl
  have z0 : ((0 : Int) != 0) = false := rfl
  unfold yAl yJH
  simp only [gd, gI, gB, gL, gF, gW, gA, gM, w64, yD7, g1, bindO_s, z0, cond_false, cond_true, z1, e1, yD8, g2, z2, e2, g3, z3, e3, hw]
  have z00 : ((0 : Int) == 0) = true := rfl
  have nn : ((mkS []).toList == noS.toList) = true := beq_self_eq_true (noS.toList)
  obtain ⟨kd, by_, ser, dd, ws, ⟨lo, hi⟩, md⟩ := c
  dsimp only at *
  have G : ∀ (wi : Int) (w : Nat) (n : Int) (t : Bs), wi = w → 1 ≤ w → w ≤ 6 → 0 ≤ n → n ≤ mostW w → t.length ≤ 1000 → yBQ L (mkS (leBytes w n.toNat ++ t)) 0 wi = some (n, 0, ()) := fun wi w n t hw a b c d e => by subst hw; exact nGet_le hL a b c d e
  have E : ∀ {w n : Nat} {t : Bs}, (mkS (leBytes w n ++ t)).extract w (mkS (leBytes w n ++ t)).size = mkS t := ext_le
  have Z : ∀ (wi : Int) (w n : Nat) (t : Bs), wi = w → decide (wi ≤ ((mkS (leBytes w n ++ t)).size : Int)) = true := fun wi w n t hw => decide_eq_true (by rw [size_le]; omega)
  have W : ∀ {n : Int}, 0 ≤ n → n ≤ 2 → IntKind.i8.wrap (minI false n 127) = n := fun {n} q1 q2 => by
    obtain ⟨n, rfl⟩ := Int.eq_ofNat_of_zero_le q1
    have : n = 0 ∨ n = 1 ∨ n = 2 := by omega
    rcases this with rfl | rfl | rfl <;> rfl
  rcases h5 with ⟨q0, rfl, rfl, rfl, rfl, rfl⟩ | ⟨rfl, q1, q2, q3, q4, rfl, rfl⟩ | ⟨rfl, q1, q2, q3, rfl, rfl, rfl⟩ | ⟨rfl, rfl, rfl, rfl, q4, q5⟩ | ⟨rfl, rfl, rfl, rfl, q4, rfl⟩
  · have e : cmdT ⟨kd, by_, ser, 0, 0, ⟨0, 0⟩, 0⟩ = [] := by rcases q0 with rfl | rfl <;> rfl
    rw [e]
    rcases q0 with rfl | rfl
    all_goals
      simp only [gd, gI, gB, gL, gF, gW, gA, gM, w64, yBe, show ((0 : Int) == 2) = false from rfl, show ((0 : Int) == 3) = false from rfl, show ((1 : Int) == 2) = false from rfl, show ((1 : Int) == 3) = false from rfl, cond_false, cond_true, show ((0 : Int) == 4) = false from rfl, show ((0 : Int) == 5) = false from rfl, show ((1 : Int) == 4) = false from rfl, show ((1 : Int) == 5) = false from rfl, nn, Bool.not_true, Bool.not_false, yAY.z, hm, bindO_s]
  · have e : cmdT ⟨2, by_, ser, 0, 0, ⟨lo, hi⟩, md⟩ = leBytes 1 lo.toNat ++ (leBytes 1 hi.toNat ++ (leBytes 1 md.toNat ++ [])) := rfl
    rw [e]
    have a1 := G 1 1 lo (leBytes 1 hi.toNat ++ (leBytes 1 md.toNat ++ [])) rfl (by omega) (by omega) q1 (by rw [most1]; omega) (by simp [leBytes_length])
    have a2 := G 1 1 hi (leBytes 1 md.toNat ++ []) rfl (by omega) (by omega) (by omega) (by rw [most1]; omega) (by simp [leBytes_length])
    have a3 := G 1 1 md [] rfl (by omega) (by omega) (by omega) (by rw [most1]; omega) (by simp)
    have b1 := @E 1 lo.toNat (leBytes 1 hi.toNat ++ (leBytes 1 md.toNat ++ []))
    have b2 := @E 1 hi.toNat (leBytes 1 md.toNat ++ [])
    have b3 := @E 1 md.toNat []
    have c1 := Z 1 1 lo.toNat (leBytes 1 hi.toNat ++ (leBytes 1 md.toNat ++ [])) rfl
    have c2 := Z 1 1 hi.toNat (leBytes 1 md.toNat ++ []) rfl
    have c3 := Z 1 1 md.toNat [] rfl
    have hwm := W (n := md) (by omega) (by omega)
    generalize mkS (leBytes 1 lo.toNat ++ (leBytes 1 hi.toNat ++ (leBytes 1 md.toNat ++ []))) = s1 at *
    generalize mkS (leBytes 1 hi.toNat ++ (leBytes 1 md.toNat ++ [])) = s2 at *
    generalize mkS (leBytes 1 md.toNat ++ []) = s3 at *
    simp only [gd, gI, gB, gL, gF, gW, gA, gM, w64, yBe, show ((2 : Int) == 2) = true from rfl, cond_true, cond_false, a1, a2, a3, b1, b2, b3, c1, c2, c3, bindO_s, z0, nn, Bool.not_true, Bool.not_false, hm, hwm]
  · have e : cmdT ⟨3, by_, ser, 0, 0, ⟨lo, hi⟩, 0⟩ = leBytes 1 lo.toNat ++ (leBytes 1 hi.toNat ++ []) := rfl
    rw [e]
    have a1 := G 1 1 lo (leBytes 1 hi.toNat ++ []) rfl (by omega) (by omega) q1 (by rw [most1]; omega) (by simp [leBytes_length])
    have a2 := G 1 1 hi [] rfl (by omega) (by omega) (by omega) (by rw [most1]; omega) (by simp)
    have b1 := @E 1 lo.toNat (leBytes 1 hi.toNat ++ [])
    have b2 := @E 1 hi.toNat []
    have c1 := Z 1 1 lo.toNat (leBytes 1 hi.toNat ++ []) rfl
    have c2 := Z 1 1 hi.toNat [] rfl
    generalize mkS (leBytes 1 lo.toNat ++ (leBytes 1 hi.toNat ++ [])) = s1 at *
    generalize mkS (leBytes 1 hi.toNat ++ []) = s2 at *
    simp only [gd, gI, gB, gL, gF, gW, gA, gM, w64, yBe, show ((3 : Int) == 2) = false from rfl, show ((3 : Int) == 3) = true from rfl, cond_true, cond_false, a1, a2, b1, b2, c1, c2, bindO_s, z0, nn, Bool.not_true, Bool.not_false, hm]
  · have e : cmdT ⟨4, by_, ser, dd, ws, ⟨0, 0⟩, 0⟩ = leBytes 6 dd.toNat ++ (leBytes 6 ws.toNat ++ []) := rfl
    rw [e]
    have a1 := G 6 6 dd (leBytes 6 ws.toNat ++ []) rfl (by omega) (by omega) (by omega) (by rw [most6]; omega) (by simp [leBytes_length])
    have a2 := G 6 6 ws [] rfl (by omega) (by omega) (by omega) (by rw [most6]; omega) (by simp)
    have b1 := @E 6 dd.toNat (leBytes 6 ws.toNat ++ [])
    have b2 := @E 6 ws.toNat []
    have c1 := Z 6 6 dd.toNat (leBytes 6 ws.toNat ++ []) rfl
    have c2 := Z 6 6 ws.toNat [] rfl
    generalize mkS (leBytes 6 dd.toNat ++ (leBytes 6 ws.toNat ++ [])) = s1 at *
    generalize mkS (leBytes 6 ws.toNat ++ []) = s2 at *
    simp only [gd, gI, gB, gL, gF, gW, gA, gM, w64, yBe, show ((4 : Int) == 2) = false from rfl, show ((4 : Int) == 3) = false from rfl, show ((4 : Int) == 4) = true from rfl, cond_true, cond_false, a1, a2, b1, b2, c1, c2, bindO_s, z0, nn, Bool.not_true, Bool.not_false, hm, yAY.z]
  · have e : cmdT ⟨5, by_, ser, dd, 0, ⟨0, 0⟩, 0⟩ = leBytes 6 dd.toNat ++ [] := rfl
    rw [e]
    have a1 := G 6 6 dd [] rfl (by omega) (by omega) (by omega) (by rw [most6]; omega) (by simp)
    have b1 := @E 6 dd.toNat []
    have c1 := Z 6 6 dd.toNat [] rfl
    generalize mkS (leBytes 6 dd.toNat ++ []) = s1 at *
    simp only [gd, gI, gB, gL, gF, gW, gA, gM, w64, yBe, show ((5 : Int) == 2) = false from rfl, show ((5 : Int) == 3) = false from rfl, show ((5 : Int) == 4) = false from rfl, show ((5 : Int) == 5) = true from rfl, cond_true, cond_false, a1, b1, c1, bindO_s, z0, nn, Bool.not_true, Bool.not_false, hm, yAY.z]
theorem rPut_le {L w : Nat} (hL : 10 < L) {n wi : Int} {b : Bs} (hw : wi = w) (h1 : 1 ≤ w) (h6 : w ≤ 6) (h0 : 0 ≤ n) (hn : n ≤ mostW w) (hb : b.length ≤ 1000) : yBZ L (b.map byV) wi [[V.int .i64 n]] = some ((b ++ leBytes w n.toNat).map byV, 0, ()) := by
  subst hw
  have hp : putR b w [n] = (b ++ leBytes w n.toNat, 0) := by
    unfold putR
    rw [putS_ok h1 h6 (fun t ht => by obtain rfl : t = 0 := by simpa using ht
                                      exact fitsN_of h1 h6 h0 hn)]
    simp [putAll]
  have e : [[V.int .i64 n]] = [n].map inV := rfl
  rw [e, rPut_eq hL _ (by simp only [List.length_cons, List.length_nil]; omega) (by simp only [List.length_cons, List.length_nil]; omega), hp]
theorem kind_row {k : Int} (h0 : 0 ≤ k) (h : k ≤ 5) : [[V.int .u8 (IntKind.u8.wrap k)]] = (leBytes 1 k.toNat).map byV := by
  obtain ⟨n, rfl⟩ := Int.eq_ofNat_of_zero_le h0
  have : n = 0 ∨ n = 1 ∨ n = 2 ∨ n = 3 ∨ n = 4 ∨ n = 5 := by omega
  rcases this with rfl | rfl | rfl | rfl | rfl | rfl <;> rfl
set_option maxHeartbeats 1000000 in
theorem rBytes_enc {L : Nat} (hL : 10 < L) {c : yAF} (h : MayC c) (h2 : c.Kind ≠ 2) (h3 : c.Kind ≠ 3) : yEP L c = some (mkS (cmdL c), 0, ()) := by
  have hm := r10May_eq (L := L) c
  rw [decide_eq_true h] at hm
  have hT : cmdT c = (if c.Kind = 4 then leBytes 6 c.Dead.toNat ++ (leBytes 6 c.Was.toNat ++ []) else if c.Kind = 5 then leBytes 6 c.Dead.toNat ++ [] else []) := by
    unfold cmdT; rw [if_neg h2, if_neg h3]
  have hlen := cmdL_len c
  have htl := cmdT_len c
  obtain ⟨⟨g1, g2⟩, g3, g4, h5⟩ := h
  have hk : 0 ≤ c.Kind ∧ c.Kind ≤ 5 := by omega
  have p1 := rPut_le hL (w := 6) (wi := 6) (n := c.By) (b := leBytes 1 c.Kind.toNat) rfl (by omega) (by omega) (by omega) (by rw [most6]; omega) (by rw [leBytes_length]; omega)
  have p2 := rPut_le hL (w := 4) (wi := 4) (n := c.Serial) (b := leBytes 1 c.Kind.toNat ++ leBytes 6 c.By.toNat) rfl (by omega) (by omega) (by omega) (by rw [most4]; omega) (by simp only [List.length_append, leBytes_length]; omega)
  have z2 : (c.Kind == 2) = false := by simpa using h2
  have z3 : (c.Kind == 3) = false := by simpa using h3
  have fin : ∀ b : Bs, (bytesOf (b.map byV)).isSome = true := fun b => by rw [bytesOf_by]; rfl
  have f1 : ∀ {α : Type} (x : Option α), gF ((leBytes 1 c.Kind.toNat ++ leBytes 6 c.By.toNat).map byV) (((leBytes 1 c.Kind.toNat ++ leBytes 6 c.By.toNat).map byV).length) x = x := fun x => gF_by (by simp only [List.length_append, leBytes_length]; omega)
  have f2 : ∀ {α : Type} (x : Option α), gF ((leBytes 1 c.Kind.toNat ++ leBytes 6 c.By.toNat ++ leBytes 4 c.Serial.toNat).map byV) (((leBytes 1 c.Kind.toNat ++ leBytes 6 c.By.toNat ++ leBytes 4 c.Serial.toNat).map byV).length) x = x := fun x => gF_by (by simp only [List.length_append, leBytes_length]; omega)
  unfold yEP yKi
  simp only [f1, f2, gd, Nat.zero_add, ble_self, List.take_length, hm, bindO_s, Bool.not_true, cond_false, kind_row hk.1 hk.2, p1, p2, z2, z3]
  by_cases h4 : c.Kind = 4
  · have hp : putR ((leBytes 1 c.Kind.toNat ++ leBytes 6 c.By.toNat) ++ leBytes 4 c.Serial.toNat) (6 : Int) [c.Dead, c.Was] = ((leBytes 1 c.Kind.toNat ++ leBytes 6 c.By.toNat) ++ leBytes 4 c.Serial.toNat ++ (leBytes 6 c.Dead.toNat ++ leBytes 6 c.Was.toNat), 0) := by
      unfold putR
      rw [show (6 : Int) = ((6 : Nat) : Int) from rfl, putS_ok (by omega) (by omega) (fun t ht => by
        match t, ht with
        | 0, _ => exact fitsN_of (by omega) (by omega) (show 0 ≤ c.Dead by omega) (by rw [most6]; show c.Dead ≤ _; omega)
        | 1, _ => exact fitsN_of (by omega) (by omega) (show 0 ≤ c.Was by omega) (by rw [most6]; show c.Was ≤ _; omega))]
      simp [putAll]
    have p3 : yBZ L (((leBytes 1 c.Kind.toNat ++ leBytes 6 c.By.toNat) ++ leBytes 4 c.Serial.toNat).map byV) 6 [[V.int .i64 c.Dead], [V.int .i64 c.Was]] = some (((leBytes 1 c.Kind.toNat ++ leBytes 6 c.By.toNat) ++ leBytes 4 c.Serial.toNat ++ (leBytes 6 c.Dead.toNat ++ leBytes 6 c.Was.toNat)).map byV, 0, ()) := by
      have e : [[V.int .i64 c.Dead], [V.int .i64 c.Was]] = [c.Dead, c.Was].map inV := rfl
      rw [e, rPut_eq hL _ (by simp only [List.length_cons, List.length_nil, List.length_append, leBytes_length]; omega) (by simp only [List.length_cons, List.length_nil]; omega), hp]
    have z4 : (c.Kind == 4) = true := by simpa using h4
    simp only [z4, cond_true, p3, bindO_s, fin, bytesS_by, f2, gd, Nat.zero_add, ble_self, List.take_length]
    unfold cmdL
    rw [hT, if_pos h4, List.append_nil, List.append_assoc, List.append_assoc]
  · by_cases h5' : c.Kind = 5
    · have p3 := rPut_le hL (w := 6) (wi := 6) (n := c.Dead) (b := (leBytes 1 c.Kind.toNat ++ leBytes 6 c.By.toNat) ++ leBytes 4 c.Serial.toNat) rfl (by omega) (by omega) (by omega) (by rw [most6]; omega) (by simp only [List.length_append, leBytes_length]; omega)
      have z4 : (c.Kind == 4) = false := by simpa using h4
      have z5 : (c.Kind == 5) = true := by simpa using h5'
      simp only [z4, z5, cond_false, cond_true, p3, bindO_s, fin, bytesS_by, f2, gd, Nat.zero_add, ble_self, List.take_length]
      rw [show cmdL c = _ from rfl]
      unfold cmdL
      rw [hT, if_neg h4, if_pos h5', List.append_nil, List.append_assoc, List.append_assoc]
    · have z4 : (c.Kind == 4) = false := by simpa using h4
      have z5 : (c.Kind == 5) = false := by simpa using h5'
      simp only [z4, z5, cond_false, cond_true, fin, bytesS_by, gd, Nat.zero_add, ble_self, List.take_length]
      unfold cmdL
      rw [hT, if_neg h4, if_neg h5', List.append_nil, List.append_assoc]
theorem getS_mid (p t : Bs) {w : Nat} {n a wi : Int} (ha : a = p.length) (hw : wi = w) (h1 : 1 ≤ w) (h6 : w ≤ 6) (h0 : 0 ≤ n) (hn : n ≤ mostW w) : getS (p ++ (leBytes w n.toNat ++ t)) a wi = (n, 0) := by
  subst ha hw
  have hf := fitsN_of h1 h6 h0 hn
  have hl : n.toNat < 256 ^ w := (fits_lt (n := n.toNat) (w := w) (by rw [Int.toNat_of_nonneg h0]; exact hf)).1
  have h2 : n.toNat ≤ 1099511627776 := (fits_lt (n := n.toNat) (w := w) (by rw [Int.toNat_of_nonneg h0]; exact hf)).2.1
  have e : ((p ++ (leBytes w n.toNat ++ t)).drop p.length).take w = leBytes w n.toNat := by
    rw [List.drop_left' rfl, List.take_left' (leBytes_length w _)]
  have el : le (leBytes w n.toNat) = n.toNat := by rw [le_leBytes, Nat.mod_eq_of_lt hl]
  rw [getS_ok ⟨h1, h6⟩ (by simp only [List.length_append, leBytes_length]; omega) (by rw [e, el]; exact h2), e, el, Int.toNat_of_nonneg h0]
theorem head_byte {k : Int} {t : Bs} (h0 : 0 ≤ k) (h : k ≤ 5) : ((((mkS (leBytes 1 k.toNat ++ t))[0]?).getD 0).toNat : Int) = k := by
  obtain ⟨n, rfl⟩ := Int.eq_ofNat_of_zero_le h0
  have : n = 0 ∨ n = 1 ∨ n = 2 ∨ n = 3 ∨ n = 4 ∨ n = 5 := by omega
  rcases this with rfl | rfl | rfl | rfl | rfl | rfl <;> rfl
set_option maxHeartbeats 4000000 in
theorem rRead_enc0 {L : Nat} (hL : 10 < L) {c : yAF} (h : MayC c) (hk2 : c.Kind = 0 ∨ c.Kind = 1) : yFz L (mkS (cmdL c)) = some (c, 0, ()) := by
  have hb := rBytes_enc hL h (by omega) (by omega)
  have hlen := cmdL_len c
  have htl := cmdT_len c
  have hT : cmdT c = [] := by
    unfold cmdT; rw [if_neg (by omega), if_neg (by omega), if_neg (by omega), if_neg (by omega)]
  obtain ⟨⟨h1, h2⟩, h3, h4, h5⟩ := h
  have g1 : yBr L (mkS (cmdL c)) 1 6 = some (c.By, 0, ()) := by
    rw [rGet_mk hL (by omega)]
    unfold cmdL
    rw [getS_mid (leBytes 1 c.Kind.toNat) (leBytes 4 c.Serial.toNat ++ cmdT c) (w := 6) (n := c.By) (a := 1) (wi := 6) (by rw [leBytes_length]; rfl) rfl (by omega) (by omega) (by omega) (by rw [most6]; omega)]
  have g2 : yBr L (mkS (cmdL c)) 7 4 = some (c.Serial, 0, ()) := by
    rw [rGet_mk hL (by omega)]
    unfold cmdL
    rw [← List.append_assoc, getS_mid (leBytes 1 c.Kind.toNat ++ leBytes 6 c.By.toNat) (cmdT c) (w := 4) (n := c.Serial) (a := 7) (wi := 4) (by simp [leBytes_length]) rfl (by omega) (by omega) (by omega) (by rw [most4]; omega)]
  have hh : ((((mkS (cmdL c))[0]?).getD 0).toNat : Int) = c.Kind := head_byte (by omega) (by omega)
  have hw : IntKind.i8.wrap c.Kind = c.Kind := by rcases hk2 with e | e <;> rw [e] <;> rfl
  have he : (mkS (cmdL c)).extract 11 (mkS (cmdL c)).size = mkS [] := by
    rw [extract_end, mkS_l]
    refine congrArg mkS (List.drop_eq_nil_of_le ?_)
    rw [hlen, hT]
    exact Nat.le_of_eq rfl
  have s0 : ((mkS (cmdL c)).size : Int) = 11 := by rw [mkS_n, hlen, hT]; rfl
  have z0 : ((0 : Int) != 0) = false := rfl
  have k2 : (c.Kind == 2) = false := by simp; omega
  have k3 : (c.Kind == 3) = false := by simp; omega
  have k4 : (c.Kind == 4) = false := by simp; omega
  have k5 : (c.Kind == 5) = false := by simp; omega
  have k127 : decide (127 < c.Kind) = false := decide_eq_false (by omega)
  have se : ((mkS []).size : Int) = 0 := rfl
  obtain ⟨kd, by_, ser, dd, ws, ⟨lo, hi⟩, md⟩ := c
  dsimp only at *
  have : lo = 0 ∧ hi = 0 ∧ md = 0 ∧ dd = 0 ∧ ws = 0 := by omega
  obtain ⟨rfl, rfl, rfl, rfl, rfl⟩ := this
  unfold yFz yLT
  simp only [gd, gI, gB, gL, gF, gW, gA, gM, w64, s0, show decide ((11 : Int) < 11) = false from rfl, show decide ((0 : Int) < 11) = true from rfl, show decide ((11 : Int) ≤ 11) = true from rfl, cond_false, cond_true, g1, g2, bindO_s, z0, hh, hw, k2, k3, k4, k5, k127, he, yAY.z, hb]
  rw [beq_self_eq_true]
  rfl
end Go.Proofs.YtakljpcmbpaeaaaGreat

namespace Go.Proofs.YtakljpcmbpaeaaaGreat
open Go.RowKit

theorem set_tx {l : List ByteArray} {i : Nat} {b : ByteArray} (hi : i < l.length) : (l.map txV).set (0 + i) (((l.map txV).getD (0 + i) []).take 0 ++ ([V.str b] ++ ((l.map txV).getD (0 + i) []).drop 1)) = (l.set i b).map txV := by
  rw [Nat.zero_add, List.getD_eq_getElem?_getD, List.getElem?_map, List.getElem?_eq_getElem hi, List.map_set]
  rfl
theorem geo_i64 {x : yAW} (h : (geoOf x).may = true) : i64b x.Wait = true := by
  have := (Geo.may_ok h).e3
  have h2 := (Geo.may_ok h).e2
  have h1 := (Geo.may_ok h).e1
  have this : x.Wait ≤ 1048576 := this
  have h2 : x.Lease < x.Wait := h2
  have h1 : 1 ≤ x.Lease := h1
  unfold i64b
  rw [decide_eq_true (by omega), decide_eq_true (by omega)]; rfl
set_option maxHeartbeats 1000000 in
theorem Format_eq {L : Nat} {x : yAW} (hm : (geoOf x).may = true) (hL : 200000 < L) : ∃ top hd : ByteArray, top.size ≤ 512 ∧ hd.size ≤ 512 ∧ yHp L x = some ((heads (geoOf x) top hd x.Slots.toNat).map txV, 0, ()) := by
  have hok := Geo.may_ok hm
  obtain ⟨xb, hxb, hxl⟩ := sBytes_ok hok
  obtain ⟨xh, hxh, hhl⟩ := head_make (n := 0) (by omega) (by omega)
  refine ⟨mkS xb, mkS xh, by rw [mkS_n]; exact hxl, by rw [mkS_n]; exact hhl, ?_⟩
  have hB : yIq L x = some (mkS xb, 0, ()) := by
    unfold yIq yKE
    rw [rMay_eq, hm, bindO_s, bif_f (by rfl)]
    have := rMake_eq (L := L) (k := 1) (rest := noS) (ws := geoW) (l := geoL (geoOf x)) (by omega) (by show (8 : Nat) < L; omega) (by omega) (by show (8 : Nat) ≤ _; omega) (by show (0 : Nat) ≤ _; omega)
    rw [show noS.data.toList = [] from rfl, hxb] at this
    exact (congrArg (fun o => bindO o fun r2 => some (r2.1, r2.2.1, ())) this).trans rfl
  have hH : yJo L 0 = some (mkS xh, 0, ()) := by
    unfold yJo yLN
    have := rMake_eq (L := L) (k := 2) (rest := noS) (ws := [6]) (l := [0]) (by omega) (by show (1 : Nat) < L; omega) (by omega) (by show (1 : Nat) ≤ _; omega) (by show (0 : Nat) ≤ _; omega)
    rw [show noS.data.toList = [] from rfl, hxh] at this
    exact (congrArg (fun o => bindO o fun r1 => some (r1.1, r1.2.1, ())) this).trans rfl
  have hbd := total_bd hok
  have hat := hok.sj
  have hT : yBg L x = some (geoOf x).total := by
    rw [rTotal_eq]
    unfold Geo.totalS
    rw [if_pos hm]
  have hD0 : 0 < (geoOf x).atD := by unfold Geo.atD; have := hok.n1; have := hok.l1; have := hok.s1; omega
  generalize hn : (geoOf x).total = t at *
  obtain ⟨n, rfl⟩ := Int.eq_ofNat_of_zero_le (show 0 ≤ t by omega)
  have h0n : 0 < n := by omega
  unfold yHp yJU
  rw [hB, hH]
  simp only [bindO_s, hT, show ((0 : Int) != 0) = false from rfl, cond_false]
  rw [gd_t (decide_eq_true (by omega)), gd_t (decide_eq_true (by omega)), gd_t (decide_eq_true (by omega)), gd_t (decide_eq_true (by omega)), gd_t (decide_eq_true (by omega))]
  have hr : List.replicate (n : Int).toNat [V.str noS] = (List.replicate n (⟨#[]⟩ : ByteArray)).map txV := by rw [Int.toNat_natCast, List.map_replicate]; rfl
  rw [hr]
  have h1 : (((List.replicate n (⟨#[]⟩ : ByteArray)).map txV).set 0 ((((List.replicate n (⟨#[]⟩ : ByteArray)).map txV).getD 0 []).take 0 ++ ([V.str (mkS xb)] ++ (((List.replicate n (⟨#[]⟩ : ByteArray)).map txV).getD 0 []).drop 1))) = (heads (geoOf x) (mkS xb) (mkS xh) 0).map txV := by
    have := set_tx (l := List.replicate n (⟨#[]⟩ : ByteArray)) (i := 0) (b := mkS xb) (by rw [List.length_replicate]; exact h0n)
    rw [this]
    unfold heads
    rw [hn, Int.toNat_natCast]
  rw [h1]
  have hrow : Nat.ble 1 (((List.replicate n (⟨#[]⟩ : ByteArray)).map txV).getD 0 []).length = true := by
    rw [List.getD_eq_getElem?_getD, List.getElem?_map, List.getElem?_replicate, if_pos h0n]; rfl
  rw [gd_t (decide_eq_true (by rw [List.length_map, List.length_replicate]; exact h0n)), gd_t hrow, gW_t (by rw [List.length_map, heads_len, hn]) (nm_tx _)]
  generalize mkS xb = top
  generalize mkS xh = hd
  obtain ⟨s, hs⟩ := Int.eq_ofNat_of_zero_le (show 0 ≤ x.Slots by have := hok.s1; exact Int.le_trans (by omega) this)
  have hs16 : s ≤ 16 := by have h1 := hok.s2; have h2 := hok.n2; have h1 : x.Slots ≤ x.Nodes := h1; have h2 : x.Nodes ≤ 16 := h2; omega
  obtain ⟨a, ha, hrun⟩ := loop1_run (α := List (List V) × Int × Unit) (F := yCO (yEf L)) (fun q => x = q.1 ∧ hd = q.2.1 ∧ ∃ j : Nat, j ≤ s ∧ (j : Int) = q.2.2.2.1 ∧ (heads (geoOf x) top hd j).map txV = q.2.2.1) (fun q => s - q.2.2.2.1.toNat)
    (fun a => a.1 = (heads (geoOf x) top hd s).map txV) (fun q hq => by
      obtain ⟨q1, q2, q3, q4, q5⟩ := q
      dsimp only at hq
      obtain ⟨rfl, rfl, j, hj, rfl, rfl⟩ := hq
      by_cases hlt : j < s
      · have hh : (geoOf x).headS j = 1 + 2 * x.Nodes + x.Log + j * (1 + x.Journal) := by
          unfold Geo.headS
          rw [if_pos ⟨hm, by omega, by show (j : Int) < x.Slots; omega⟩]
          rfl
        have hle : (geoOf x).headS j < n := by
          rw [hh, ← hn]
          have hb1 := hok.b1; have hp1 := hok.p1; have hj1 := hok.j1
          have e1 : ((j : Int) + 1) * (1 + x.Journal) ≤ x.Slots * (1 + x.Journal) := Int.mul_le_mul_of_nonneg_right (by omega) (by have hj1 : x.Per + 2 ≤ x.Journal := hj1; have hp1 : 1 ≤ x.Per := hp1; omega)
          rw [Int.add_mul] at e1
          have e2 : 0 ≤ x.Blocks * x.Per := Int.mul_nonneg (by have hb1 : 1 ≤ x.Blocks := hb1; omega) (by have hp1 : 1 ≤ x.Per := hp1; omega)
          show _ < 1 + 2 * x.Nodes + x.Log + x.Slots * (1 + x.Journal) + x.Blocks * x.Per
          have hj1 : x.Per + 2 ≤ x.Journal := hj1
          have hp1 : 1 ≤ x.Per := hp1
          omega
        have hh0 : 0 ≤ (geoOf x).headS j := by
          rw [hh]
          have : 0 ≤ (j : Int) * (1 + x.Journal) := Int.mul_nonneg (by omega) (by have hj1 := hok.j1; have hp1 := hok.p1; have hj1 : x.Per + 2 ≤ x.Journal := hj1; have hp1 : 1 ≤ x.Per := hp1; omega)
          have h1 := hok.n1; have h2 := hok.l1; have h3 := hok.s1
          have h1 : 1 ≤ x.Nodes := h1
          have h2 : 8 * x.Slots ≤ x.Log := h2
          have h3 : 1 ≤ x.Slots := h3
          omega
        refine .inl ⟨(x, hd, (heads (geoOf x) top hd (j + 1)).map txV, ((j + 1 : Nat) : Int), ()), ⟨rfl, rfl, j + 1, hlt, rfl, rfl⟩, by dsimp only; omega, fun kn ka => ?_⟩
        have hlen : ((heads (geoOf x) top hd j).map txV).length = n := by rw [List.length_map, heads_len, hn, Int.toNat_natCast]
        have hset := set_tx (l := heads (geoOf x) top hd j) (i := ((geoOf x).headS j).toNat) (b := hd) (by rw [heads_len, hn]; omega)
        have hHd : yEf L x j = some ((geoOf x).headS j) := rHead_eq x j
        unfold yCO
        dsimp only
        rw [bif_t (decide_eq_true (by omega)), hHd, bindO_s, gB_t hh0 (by rw [hlen]; exact hle)]
        rw [hset, gd_t (decide_eq_true (by rw [hlen]; omega)), gd_t (Nat.ble_eq_true_of_le (Nat.zero_le _)), gd_t (by
          rw [List.getD_eq_getElem?_getD, List.getElem?_map, List.getElem?_eq_getElem (by rw [heads_len, hn]; omega)]; rfl), gW_t (by rw [List.length_map, List.length_map, List.length_set]) (nm_tx _)]
        rw [w64_t (by omega) (by omega)]
        rfl
      · obtain rfl : j = s := by omega
        refine .inr ⟨((heads (geoOf x) top hd j).map txV, ()), rfl, fun kn ka => ?_⟩
        unfold yCO
        dsimp only
        rw [bif_f (decide_eq_false (by omega)), gW_t rfl (nm_tx _)])
    L (x, hd, (heads (geoOf x) top hd 0).map txV, 0, ()) ⟨rfl, rfl, 0, Nat.zero_le _, rfl, rfl⟩ (by dsimp only; omega)
  rw [hrun]
  obtain ⟨a1, a2⟩ := a
  dsimp only at ha ⊢
  subst ha
  rw [gF_t (by omega) (by rw [List.length_map, heads_len, hn]; omega) (nm_tx _), List.take_length]
  rw [show x.Slots.toNat = s by omega]
end Go.Proofs.YtakljpcmbpaeaaaGreat

namespace Go.Proofs.YtakljpcmbpaeaaaGreat
open Go.RowKit

theorem heads_blank {g : Geo} (h : g.OK) (top hd : ByteArray) {k : Nat} (k1 : 1 ≤ k) (k2 : (k : Int) < g.atJ) : ∀ j : Nat, (heads g top hd j).getD k noS = noS
  | 0 => by
    unfold heads
    rw [List.getD_eq_getElem?_getD, List.getElem?_set_ne (by omega), List.getElem?_replicate]
    split <;> rfl
  | j + 1 => by
    unfold heads
    have hne : (g.headS j).toNat ≠ k := by
      unfold Geo.headS
      split
      · have : 0 ≤ (j : Int) * (1 + g.journal) := Int.mul_nonneg (by omega) (by have := h.j1; have := h.p1; omega)
        unfold Geo.atJ at *
        omega
      · omega
    rw [List.getD_eq_getElem?_getD, List.getElem?_set_ne hne, ← List.getD_eq_getElem?_getD]
    exact heads_blank h top hd k1 k2 j
structure First (g : Geo) (s : List ByteArray) : Prop where
  ok : SecOk s
  len : (s.length : Int) = g.total
  no : ∀ k : Nat, 1 ≤ k → (k : Int) < g.atJ → s.getD k noS = noS
set_option maxHeartbeats 1000000 in
theorem made_eq {L : Nat} {x : yAW} (hm : (geoOf x).may = true) (hL : 200000 < L) : ∃ s, First (geoOf x) s ∧ yGi L x = some (dvF s x.Nodes.toNat, true, ()) := by
  have hok := Geo.may_ok hm
  obtain ⟨top, hd, h1, h2, hF⟩ := Format_eq (L := L) hm hL
  have hbd := total_bd hok
  have hat := hok.sj
  have hlen := heads_len (geoOf x) top hd x.Slots.toNat
  have hA : 0 < (geoOf x).atD := by unfold Geo.atD; have := hok.n1; have := hok.l1; have := hok.s1; omega
  have n1 := hok.n1
  have n2 := hok.n2
  have n1 : 1 ≤ x.Nodes := n1
  have n2 : x.Nodes ≤ 16 := n2
  generalize hs : heads (geoOf x) top hd x.Slots.toNat = s at *
  have hS : SecOk s := ⟨by omega, by omega, by rw [← hs]; exact heads_size h1 h2 _⟩
  refine ⟨s, ⟨hS, by omega, fun k k1 k2 => by rw [← hs]; exact heads_blank hok top hd k1 k2 _⟩, ?_⟩
  obtain ⟨N, hN⟩ := Int.eq_ofNat_of_zero_le (show 0 ≤ x.Nodes by omega)
  have hNn : x.Nodes.toNat = N := by omega
  rw [hNn]
  unfold yGi yK7
  rw [hF, bindO_s]
  obtain ⟨c0, hc0, hnew⟩ := rnew_eq (L := L) hS (N := N) (by omega) (by omega) hL
  rw [hN, hnew, bif_f (by rfl), bindO_s]
  obtain ⟨a, ha, hrun⟩ := loop1_run (α := yAA × Bool × Unit) (F := yCk (yIN L)) (fun q => x = q.1 ∧ q.2.2.1 = 0 ∧ ∃ j : Nat, j ≤ N ∧ (j : Int) = q.2.2.2.2.1 ∧ ∃ c, CE c N ∧ (j = N → c = cAll N) ∧ dvN s c N j = q.2.2.2.1) (fun q => N - q.2.2.2.2.1.toNat)
    (fun a => a.2.1 = 0 ∧ a.2.2.1 = dvF s N) (fun q hq => by
      obtain ⟨q1, q2, q3, q4, q5, q6⟩ := q
      dsimp only at hq
      obtain ⟨rfl, rfl, j, hj, rfl, c, hc, hcN, rfl⟩ := hq
      by_cases hlt : j < N
      · obtain ⟨b, hb⟩ := rdo_reg hS hc (by omega) (by omega) hL hlt
        refine .inl ⟨(x, q2, 0, dvN s ((cE N).set j [V.sl [] true]) N (j + 1), ((j + 1 : Nat) : Int), ()), ⟨rfl, rfl, j + 1, hlt, rfl, _, cS_ok N j, fun e => by rw [← e]; rfl, rfl⟩, by dsimp only; omega, fun kn ka => ?_⟩
        unfold yCk
        dsimp only
        rw [bif_t (decide_eq_true (by omega)), bif_t (by rfl), hb, bindO_s]
        dsimp only
        rw [w64_t (by omega) (by omega)]
        rfl
      · obtain rfl : j = N := by omega
        refine .inr ⟨(q2, 0, dvF s j, ()), ⟨rfl, rfl⟩, fun kn ka => ?_⟩
        unfold yCk
        dsimp only
        rw [bif_f (decide_eq_false (by omega)), hcN rfl])
    L (x, yAA.z, 0, dvN s c0 N 0, 0, ()) ⟨rfl, rfl, 0, Nat.zero_le _, rfl, c0, hc0, fun e => by omega, rfl⟩ (by dsimp only; omega)
  show loop1 (yCk (yIN L)) L (x, yAA.z, 0, dvN s c0 N 0, 0, ()) _ = _
  rw [hrun]
  obtain ⟨a1, a2, a3, a4⟩ := a
  obtain ⟨rfl, rfl⟩ := ha
  rfl
end Go.Proofs.YtakljpcmbpaeaaaGreat
