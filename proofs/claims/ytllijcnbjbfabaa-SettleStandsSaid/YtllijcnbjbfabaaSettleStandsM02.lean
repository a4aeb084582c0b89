/- breakwaterref03: the walks of Seal, Open, Of. -/
import Derived.Test.YtllijcnbjbfabaaSettleStandsM01
import Derived.Deep.RegionHeld3
import Derived.Deep.DrawnRows
import Derived.Test.YtllijcnbjbfabaaChecked
import Derived.WalkKit
import Derived.WalkSpells
import Derived.WalkLawsBesides
import Derived.Deep.QuietTactic
import Derived.BigQuiet
import Derived.Lib.Hide
import Derived.Deep.LoopGhost
import Derived.Deep.DeepCutAuto
import Derived.RegionTactic
import Derived.BigRegion
import Derived.OwnWalk
import Derived.StillTailTactics
import Derived.IntWalk
namespace Go.Proofs.Ytllijcnbjbfabaa
open Go.RowKit

theorem str_ne {a b : ByteArray} (h : a ≠ b) : (!a.toList == b.toList) = true := by
  have : a.toList ≠ b.toList := by
    rw [Lib.toList_data, Lib.toList_data]
    intro e
    exact h (by rw [← mkS_self a, ← mkS_self b, e])
  simp [this]
theorem leBytes4 (x : Nat) (h : x < 4294967296) : bcells (leBytes 4 x) = [.int .u8 ((x : Int) % 256), .int .u8 ((x : Int) / 256 % 256), .int .u8 ((x : Int) / 65536 % 256), .int .u8 ((x : Int) / 16777216)] := by
  have e : (x : Int) / 16777216 = (x : Int) / 16777216 % 256 := by omega
  rw [e]
  simp only [leBytes, bcells, List.map_cons, List.map_nil, Nat.div_div_eq_div_mul]
  simp

set_option maxHeartbeats 1000000 in
set_option maxRecDepth 100000 in
theorem rSeal_ok (q : UInt8) (s : ByteArray) (w : World) (hq : 1 ≤ q.toNat) (hq2 : q.toNat ≤ 127) (hl : s.size ≤ 505) :
    Calls Try.prog 78 #[.int .i8 q.toNat, .string s] w fun e w' =>
      e = .returned (.tuple #[.string (mkS (sealHead q.toNat s.data.toList ++ leBytes 4 (crcSum (sealHead q.toNat s.data.toList)))), .int .i64 0]) ∧ Below w.heap.size w w' := by
  obtain ⟨i0, hi0, hz0, hz1, hz2⟩ := info_parts u8_info
  have hkw : IntKind.u8.wrap (q.toNat : Int) = q.toNat := by rw [IntKind.wrap_u8']; omega
  have hb1 : decide ((q.toNat : Int) < 1) = false := by simp; omega
  have hb2 : decide ((505 : Int) < (s.size : Int)) = false := by simp; omega
  have hhd : [q] ++ leBytes 2 s.size ++ s.data.toList = sealHead q.toNat s.data.toList := by simp [sealHead]
  have hhl : (sealHead q.toNat s.data.toList).length ≤ 508 := by rw [sealHead_length]; simp; omega
  generalize sealHead q.toNat s.data.toList = hd at *
  have HH := Lib.hid hhd; clear hhd
  go_enter Try.func78, Try.ntmps78
  go_wp2_with fail
  refine (rPut_any (some ⟨w.heap.size, 0, none⟩) (some ⟨w.heap.size + 1, 0, none⟩) 1 1 2 [q] [(s.size : Int)] _ (by simp) ?h1 ?h2).mono ?_
  case h1 => exact reads_blk ((Blk.new w 5 #[Value.int IntKind.u8 q.toNat]).alloc (Obj.cells #[Value.int IntKind.i64 s.size] 3)) rfl rfl
  case h2 =>
    have h := Blk.new (w.alloc (Obj.cells #[Value.int IntKind.u8 q.toNat] 5)) 3 #[Value.int IntKind.i64 s.size]
    rw [show (w.alloc (Obj.cells #[Value.int IntKind.u8 q.toNat] 5)).heap.size = w.heap.size + 1 by simp] at h
    exact reads_blk h rfl rfl
  rw [show putS [q] (2 : Int) [(s.size : Int)] = some ([q] ++ leBytes 2 s.size) from putS_one (wd := 2) (by omega) (by omega) (by simp [mostW]; omega)]
  rintro e w1 ⟨v1, rfl, hown1, hB1⟩
  have hB : Below w.heap.size w w1 := (((Below.refl _ _).alloc (Nat.le_refl _) _).alloc (by simp) _).trans (hB1.mono (by simp; omega))
  have ho1 := own_base hown1 (base' := w.heap.size) (by simp; omega)
  obtain ⟨A1, n1, rfl⟩ : ∃ A1 n1, v1 = .slice A1 3 n1 := by
    obtain ⟨A1, n1, e1, _⟩ := own_reads ho1; exact ⟨A1, n1, by rw [e1]; simp [leBytes_length]⟩
  have hsz := hB.size
  have HB := Lib.hid hB; clear hB hB1 hown1
  have HO1 := Lib.hid ho1; clear ho1
  go_wp2_with (first
    | (at_builtin; refine wpList_append_src _ rfl (.tmp 26) (.tmp 27) 58 9 rfl w.heap.size 5 i0 (.int .u8 0) 1 Try.underlying58 hi0 hz0 hz1 hz2 rfl (.slice A1 3 n1) _ _ (by rfl) HO1.out (by simp) (.string s) s.size (byteCells s) (by rfl) (Src.ofString _ Try.underlying9 s) (by simp [leBytes_length, maxLen]; omega) (by simp [leBytes_length]; omega) hsz ?_; intro v2 w2 hown2 hg2 hat2; (have ho2 : w2.ownsRow w.heap.size 5 1 v2 hd.length (bcells hd) := by (rw [← HH.out, bcells_append, List.length_append]; exact hown2)); obtain ⟨A2, n2, rfl, -, -, hr2⟩ := own_reads ho2; have HB2 := Lib.hid (below_own HB.out HO1.out hg2 hsz); have HO2 := Lib.hid ho2; have HR2 := Lib.hid hr2; clear hown2 ho2 hg2 hat2 hr2))
  refine (rSum_any A2 n2 hd w2 (by omega) HR2.out).mono ?_
  rintro e w3 ⟨rfl, rfl⟩
  have hcl := crcSum_lt hd
  have hl4 := leBytes4 (crcSum hd) hcl
  have HL4 := Lib.hid hl4; clear hl4
  generalize hcr : crcSum hd = cr at *
  have HCR := Lib.hid hcr; clear hcr
  have hsz2 := HB2.out.size
  go_wp2_with (first
    | (at_builtin; go_loud (refine wpList_append_any _ rfl (.tmp 31) (.tmp 43) 58 rfl w.heap.size 5 i0 (.int .u8 0) 1 1 Try.underlying58 hi0 hz0 hz1 hz2 rfl (by decide) (.slice A2 hd.length n2) hd.length (bcells hd) (by rfl) (HO2.out.alloc _) _ (some ⟨w2.heap.size, 0, none⟩) 4 4 (bcells (leBytes 4 cr)) (by rfl) (by rw [HL4.out]; exact reads_blk (Blk.new _ _ _) rfl rfl) (bcells_one _) (by unfold maxLen; omega) (by omega) (by simp; omega) ?_); intro v4 w4 hown4 hg4 hat4; (have hB4 := below_own (HB2.out.alloc hsz2 _) (HO2.out.alloc _) hg4 (by simp; omega)); (rw [← bcells_append] at hown4); obtain ⟨A4, n4, rfl, -, -, hr4⟩ := own_reads hown4; (have hr4' : Reads w4 w4.heap.size 1 A4 (hd ++ leBytes 4 cr).length (bcells (hd ++ leBytes 4 cr)) := by (rw [List.length_append, leBytes_length]; exact hr4)); (have hconv := run_string_of (P := Try.prog) w4 58 9 5 Try.underlying58 Try.underlying5 Try.underlying9 w4.heap.size A4 n4 _ hr4'); rw [List.length_append, leBytes_length] at hconv; have HB4 := Lib.hid hB4; clear hB4 hg4 hat4 hown4 hr4 hr4'))
  go_ret2
  exact ⟨by rw [HCR.out]; rfl, HB4.out⟩

theorem rSeal_any (k : Int) (s : ByteArray) (w : World) (hk2 : k ≤ 127) (hs : s.size ≤ 9223372036854775807) :
    Calls Try.prog 78 #[.int .i8 k, .string s] w fun e w' =>
      e = .returned (.tuple #[.string (mkS (sealR k s.data.toList).1), .int .i64 (sealR k s.data.toList).2]) ∧ Below w.heap.size w w' := by
  by_cases h : 1 ≤ k ∧ s.size ≤ 505
  · obtain ⟨q, rfl⟩ : ∃ q : UInt8, k = (q.toNat : Int) := ⟨UInt8.ofNat k.toNat, by simp; omega⟩
    rw [sealR_ok h.1 (by simpa using h.2)]
    exact rSeal_ok q s w (by omega) (by omega) h.2
  · rw [sealR_bad (by simpa using h)]
    by_cases hk : k < 1
    · go_enter Try.func78, Try.ntmps78
      go_wp2
      go_ret2
      exact ⟨rfl, Below.refl _ _⟩
    · have hl : (505 : Int) < s.size := by omega
      go_enter Try.func78, Try.ntmps78
      go_wp2
      go_ret2
      exact ⟨rfl, Below.refl _ _⟩

end Go.Proofs.Ytllijcnbjbfabaa

namespace Go.Proofs.Ytllijcnbjbfabaa
theorem sealB_parts {k : Int} {l x : Bs} (h : sealB k l = some x) : 1 ≤ k ∧ l.length ≤ 505 ∧ x = UInt8.ofNat k.toNat :: (leBytes 2 l.length ++ (l ++ leBytes 4 (crcSum (sealHead k l)))) ∧ x.length = l.length + 7 := by
  unfold sealB at h
  split at h
  · rename_i hc
    injection h with h
    refine ⟨hc.1, hc.2, by rw [← h]; simp [sealHead], by rw [← h, List.length_append, sealHead_length, leBytes_length]⟩
  · cases h
theorem len_field {k : Int} {l x : Bs} (h : sealB k l = some x) (t : Bs) (ht : t.take 3 = x.take 3) : le ((t.drop 1).take 2) = l.length := by
  obtain ⟨_, h5, hx, _⟩ := sealB_parts h
  have e : (t.drop 1).take 2 = (t.take 3).drop 1 := by rw [List.drop_take]
  rw [e, ht, hx]
  simp [leBytes, le]
  omega
theorem open_more {k : Int} {l x : Bs} (h : sealB k l = some x) (m : Bs) (hm : m.length ≠ 0) : openR (x ++ m) = (0, [], 30) := by
  obtain ⟨_, h5, hx, hl⟩ := sealB_parts h
  refine openR_len (by simp; omega) ?_
  rw [len_field h (x ++ m) (by rw [List.take_append_of_le_length (by omega)])]
  simp; omega
theorem open_less {k : Int} {l x : Bs} (h : sealB k l = some x) (i : Nat) (hi : i < x.length) : openR (x.take i) = (0, [], 30) := by
  obtain ⟨_, h5, hx, hl⟩ := sealB_parts h
  have hlen : (x.take i).length = i := by simp; omega
  rcases Nat.lt_or_ge i 7 with h7 | h7
  · exact openR_short (by omega)
  · refine openR_len (by omega) ?_
    rw [len_field h (x.take i) (by rw [List.take_take, Nat.min_eq_left (by omega)]), hlen]
    omega
end Go.Proofs.Ytllijcnbjbfabaa

namespace Go.Proofs.Ytllijcnbjbfabaa
open Go.RowKit

/-- the bytes of numbers of widths, or none -/
def fieldsB : Bs → List Int → List Int → Option Bs
  | b, [], [] => some b
  | b, w :: ws, n :: l => if fitsB n w = true ∧ (b ++ leBytes w.toNat n.toNat).length ≤ 505 then fieldsB (b ++ leBytes w.toNat n.toNat) ws l else none
  | _, _, _ => none
def makeR (k : Int) (rest : Bs) (ws l : List Int) : Bs × Int :=
  match fieldsB [] ws l with
  | some b => sealR k (b ++ rest)
  | none => ([], 2)

/-- the numbers of widths that stand ahead, and what is left -/
def takeF : Bs → List Int → Option (List Int × Bs)
  | s, [] => some ([], s)
  | s, w :: ws => if (getS s 0 w).2 = 0 then (takeF (s.drop w.toNat) ws).map fun r => ((getS s 0 w).1 :: r.1, r.2) else none
def fieldsR (k : Int) (s : Bs) (ws : List Int) : List Int × Bs × Int :=
  if (ofR k s).2 = 0 then
    match takeF (ofR k s).1 ws with
    | some r => (r.1, r.2, 0)
    | none => ([], [], 30)
  else ([], [], (ofR k s).2)

theorem fieldsB_snoc (b : Bs) (ws l : List Int) (w n : Int) (h : ws.length = l.length) :
    fieldsB b (ws ++ [w]) (l ++ [n]) = (fieldsB b ws l).bind fun b' => if fitsB n w = true ∧ (b' ++ leBytes w.toNat n.toNat).length ≤ 505 then some (b' ++ leBytes w.toNat n.toNat) else none := by
  induction ws generalizing b l with
  | nil =>
    have : l = [] := List.eq_nil_of_length_eq_zero (by simpa using h.symm)
    subst this
    simp only [List.nil_append, fieldsB, Option.bind_some]
  | cons w' ws ih =>
    match l, h with
    | n' :: l, h =>
      simp only [List.cons_append, fieldsB]
      split
      · exact ih _ l (by simpa using h)
      · rfl
theorem fieldsB_none (b : Bs) (ws l ws' l' : List Int) (h : ws.length = l.length) (hn : fieldsB b ws l = none) : fieldsB b (ws ++ ws') (l ++ l') = none := by
  induction ws generalizing b l with
  | nil =>
    have : l = [] := List.eq_nil_of_length_eq_zero (by simpa using h.symm)
    subst this
    simp [fieldsB] at hn
  | cons w' ws ih =>
    match l, h with
    | n' :: l, h =>
      simp only [List.cons_append, fieldsB] at hn ⊢
      split
      · rename_i hc
        rw [if_pos hc] at hn
        exact ih _ l (by simpa using h) hn
      · rfl
theorem fieldsB_len (b : Bs) (ws l : List Int) (h : ws.length ≠ l.length) : fieldsB b ws l = none := by
  induction ws generalizing b l with
  | nil => match l, h with
    | n :: l, _ => rfl
  | cons w ws ih => match l, h with
    | [], _ => rfl
    | n :: l, h =>
      simp only [fieldsB]
      split
      · exact ih _ l (by simpa using h)
      · rfl
theorem fieldsB_length (b : Bs) (ws l : List Int) (x : Bs) (h : fieldsB b ws l = some x) (hb : b.length ≤ 505) : x.length ≤ 505 := by
  induction ws generalizing b l with
  | nil => match l, h with
    | [], h => simp [fieldsB] at h; subst h; exact hb
  | cons w ws ih => match l, h with
    | n :: l, h =>
      simp only [fieldsB] at h
      split at h
      · rename_i hc; exact ih _ l h hc.2
      · cases h

theorem takeF_snoc (s : Bs) (ws : List Int) (w : Int) : takeF s (ws ++ [w]) = (takeF s ws).bind fun r => if (getS r.2 0 w).2 = 0 then some (r.1 ++ [(getS r.2 0 w).1], r.2.drop w.toNat) else none := by
  induction ws generalizing s with
  | nil => simp only [List.nil_append, takeF, Option.bind_some]; split <;> simp
  | cons w' ws ih =>
    simp only [List.cons_append, takeF]
    split
    · rw [ih]
      cases takeF (s.drop w'.toNat) ws with
      | none => rfl
      | some r =>
        simp only [Option.bind_some, Option.map_some]
        split <;> simp
    · rfl
theorem takeF_none (s : Bs) (ws ws' : List Int) (h : takeF s ws = none) : takeF s (ws ++ ws') = none := by
  induction ws generalizing s with
  | nil => simp [takeF] at h
  | cons w ws ih =>
    simp only [List.cons_append, takeF] at h ⊢
    split
    · rename_i hc
      rw [if_pos hc] at h
      have : takeF (s.drop w.toNat) ws = none := by simpa using h
      rw [ih _ this]; rfl
    · rfl
theorem getS_zero {s : Bs} {w : Int} (h : (getS s 0 w).2 = 0) : 1 ≤ w ∧ w ≤ 6 ∧ w ≤ s.length := by
  unfold getS at h
  split at h
  · split at h
    · omega
    · simp at h
  · simp at h
theorem takeF_le (s : Bs) (ws : List Int) (r : List Int × Bs) (h : takeF s ws = some r) : r.2.length ≤ s.length ∧ r.1.length = ws.length := by
  induction ws generalizing s r with
  | nil => simp [takeF] at h; subst h; simp
  | cons w ws ih =>
    simp only [takeF] at h
    split at h
    · cases ht : takeF (s.drop w.toNat) ws with
      | none => rw [ht] at h; simp at h
      | some q =>
        rw [ht] at h
        simp at h
        subst h
        have := ih _ _ ht
        simp at this ⊢
        omega
    · cases h

/-- what was put is taken -/
theorem getS_put (n w : Int) (t : Bs) (h : fitsB n w = true) : getS (leBytes w.toNat n.toNat ++ t) 0 w = (n, 0) := by
  have hf := of_decide_eq_true h
  obtain ⟨m, rfl⟩ := Int.eq_ofNat_of_zero_le hf.2.2.1
  obtain ⟨v, rfl⟩ := Int.eq_ofNat_of_zero_le (show 0 ≤ w by omega)
  have hl := fits_lt h
  simp only [Int.toNat_natCast]
  have e : ((leBytes v m ++ t).drop 0).take v = leBytes v m := by
    rw [List.drop_zero, List.take_append_of_le_length (by rw [leBytes_length]; omega), List.take_of_length_le (by rw [leBytes_length]; omega)]
  have e2 : le (((leBytes v m ++ t).drop 0).take v) = m := by rw [e, le_leBytes, Nat.mod_eq_of_lt hl.1]
  have := getS_ok (l := leBytes v m ++ t) (a := 0) (w := v) (by omega) (by simp [leBytes_length]) (by rw [e2]; omega)
  rw [e2] at this
  exact this
theorem takeF_fields (b : Bs) (ws l : List Int) (x t : Bs) (h : fieldsB b ws l = some x) : ∃ y, x = b ++ y ∧ takeF (y ++ t) ws = some (l, t) := by
  induction ws generalizing b l with
  | nil => match l, h with
    | [], h => simp [fieldsB] at h; subst h; exact ⟨[], by simp, by simp [takeF]⟩
  | cons w ws ih => match l, h with
    | n :: l, h =>
      simp only [fieldsB] at h
      split at h
      · rename_i hc
        obtain ⟨y, rfl, hy⟩ := ih _ l h
        refine ⟨leBytes w.toNat n.toNat ++ y, by simp, ?_⟩
        have hg := getS_put n w (y ++ t) hc.1
        simp only [takeF, List.append_assoc]
        rw [hg]
        simp only [if_true]
        rw [List.drop_append_of_le_length (by rw [leBytes_length]; omega), List.drop_of_length_le (by rw [leBytes_length]; omega), List.nil_append, hy]
        rfl
      · cases h
end Go.Proofs.Ytllijcnbjbfabaa

namespace Go.Proofs.Ytllijcnbjbfabaa
open Go.RowKit

theorem putS_single (b : Bs) (wd n : Int) : putS b wd [n] = if fitsB n wd = true then some (b ++ leBytes wd.toNat n.toNat) else none := by
  by_cases h : fitsB n wd = true
  · have hf := of_decide_eq_true h
    rw [putS, if_pos ⟨⟨hf.1, hf.2.1⟩, by simp [h]⟩, if_pos h]
    simp [putAll]
  · rw [if_neg h, putS, if_neg (fun h' => h (by simpa using h'.2))]

theorem makeR_none {k : Int} {rest : Bs} {ws l : List Int} (h : fieldsB [] ws l = none) : makeR k rest ws l = ([], 2) := by rw [makeR, h]
theorem makeR_some {k : Int} {rest b : Bs} {ws l : List Int} (h : fieldsB [] ws l = some b) : makeR k rest ws l = sealR k (b ++ rest) := by rw [makeR, h]
theorem fields_next {ws l : List Int} {b : Bs} {j : Nat} (hw : j < ws.length) (hl : j < l.length) (h : fieldsB [] (ws.take j) (l.take j) = some b) :
    fieldsB [] (ws.take (j + 1)) (l.take (j + 1)) = if fitsB l[j] ws[j] = true ∧ (b ++ leBytes ws[j].toNat l[j].toNat).length ≤ 505 then some (b ++ leBytes ws[j].toNat l[j].toNat) else none := by
  rw [List.take_succ_eq_append_getElem hw, List.take_succ_eq_append_getElem hl, fieldsB_snoc _ _ _ _ _ (by simp; omega), h]; rfl
theorem fields_stop {ws l : List Int} {j : Nat} (hw : j < ws.length) (hl : j < l.length) (h : fieldsB [] (ws.take (j + 1)) (l.take (j + 1)) = none) : fieldsB [] ws l = none := by
  have := fieldsB_none [] _ _ (ws.drop (j + 1)) (l.drop (j + 1)) (by simp; omega) h
  rwa [List.take_append_drop, List.take_append_drop] at this

def MakePost (w : World) (r : Bs × Int) (e : Ending) (w' : World) : Prop := e = .returned (.tuple #[.string (mkS r.1), .int .i64 r.2]) ∧ Below w.heap.size w w'

set_option maxHeartbeats 1000000 in
set_option maxRecDepth 100000 in
theorem Make_any (k : Int) (rest : ByteArray) (Aw Al : Option Addr) (cw cl : Nat) (ws l : List Int) (w : World) (hk : k ≤ 127) (hrest : rest.size ≤ 1000000) (_hll : l.length ≤ 1000000) (hwl : ws.length ≤ 1000000)
    (hw : Reads w w.heap.size 1 Aw ws.length (icells ws)) (hl : Reads w w.heap.size 1 Al l.length (icells l)) :
    Calls Try.prog 99 #[.int .i8 k, .string rest, .slice Aw ws.length cw, .slice Al l.length cl] w fun e w' => MakePost w (makeR k rest.data.toList ws l) e w' := by
  by_cases hlen : ws.length = l.length
  · have hlb : ((ws.length : Int) != (l.length : Int)) = false := by simp [hlen]
    have hlw : l.length ≤ ws.length := by omega
    have hlw2 : ws.length ≤ l.length := by omega
    clear hlen
    have HW := Lib.hid hw; clear hw
    have HL := Lib.hid hl; clear hl
    go_enter Try.func99, Try.ntmps99
    go_wp2_with fail
    have hs0 : Sect (w.alloc (Obj.cells #[.slice none 0 0, .int .i64 0, .int .i8 k] 156)) w.heap.size (.slice none 0 0) 0 k := Blk.new w _ _
    have HS0 := Lib.hid hs0; clear hs0
    go_loopg [23] l.length (fun gk i wr => ∃ (j : Nat) (b : Bs) (A : Option Addr) (c : Nat), j ≤ l.length ∧ gk = l.length - j ∧ i = .int .i64 j ∧ fieldsB [] (ws.take j) (l.take j) = some b ∧ b.length ≤ 505 ∧
        Sect wr w.heap.size (.slice A b.length c) 0 k ∧ Reads wr wr.heap.size 1 A b.length (bcells b) ∧ Below w.heap.size w wr)
    case atStart => exact ⟨0, [], none, 0, by omega, rfl, rfl, rfl, by simp, HS0.out, Reads.none_, (Below.refl _ _).alloc (Nat.le_refl _) _⟩
    case round =>
      clear HS0
      obtain ⟨j, b, A, c, hj, rfl, rfl, hf, hb5, hs, hr, hB⟩ := hrel
      have HF := Lib.hid hf; clear hf
      by_cases hlt : j < l.length
      · have hlt2 : j < ws.length := by omega
        obtain ⟨al, rfl, hal, hcl⟩ := (HL.out.below hB).cell_ hlt (icells_get l j hlt)
        obtain ⟨aw, rfl, haw, hcw⟩ := (HW.out.below hB).cell_ hlt2 (icells_get ws j hlt2)
        have hnx := fields_next hlt2 hlt HF.out
        have hps := putS_single b ws[j] l[j]
        have HNX := Lib.hid hnx; clear hnx
        have HPS := Lib.hid hps; clear hps
        have HSTOP := Lib.hid (@fields_stop ws l j hlt2 hlt)
        generalize ws[j] = wj at *
        generalize l[j] = nj at *
        have HS := Lib.hid hs; clear hs
        have HR := Lib.hid hr; clear hr
        have hsz := hB.size
        have HB := Lib.hid hB; clear hB
        have hcw2 : ∀ o, (wr.alloc o).cell? (aw.add j) = some (.int .i64 wj) := fun o => (World.cell?_alloc_lt wr o (aw.add j) (by rw [block_of_add]; omega)).trans hcw
        have hi1 : (0 : Int) ≤ (j : Int) := by omega
        have hi2 : (j : Int) < (ws.length : Int) := by omega
        go_wp2_with fail
        go_region_with (first
          | (go_at_call 110; refine (sput_any w.heap.size A (some ⟨wr.heap.size, 0, none⟩) c 1 0 k wj b [nj] _ (by simp; omega) (by exact HS.out.alloc _) (by exact (HR.out.alloc (Nat.le_refl _) _).more (by simp)) (by exact reads_blk (Blk.new wr 3 #[Value.int IntKind.i64 nj]) rfl rfl)).mono ?_; rintro e w5 ⟨rfl, hpost⟩))
        all_goals
          rw [HPS.out] at hpost
          by_cases hfit : fitsB nj wj = true
          · rw [if_pos hfit] at hpost
            obtain ⟨v, hs5, hown5, hg5⟩ := hpost
            have hB5 : Below w.heap.size w w5 := below_only ((HB.out.alloc hsz (Obj.cells #[Value.int IntKind.i64 nj] 3)).drew) hg5 (Nat.le_refl _)
            obtain ⟨A5, c5, rfl, -, -, hr5⟩ := own_reads hown5
            have d1 : w5.cell? ⟨w.heap.size, 1, none⟩ = some (.int .i64 0) := by rw [hs5.cell 1]; rfl
            have d0 : w5.cell? ⟨w.heap.size, 0, none⟩ = some (.slice A5 (b ++ leBytes wj.toNat nj.toNat).length c5) := by rw [hs5.cell 0]; rfl
            have HS5 := Lib.hid hs5; clear hs5
            have HR5 := Lib.hid hr5; clear hr5 hown5 hg5
            have HB5 := Lib.hid hB5; clear hB5
            generalize hnb : b ++ leBytes wj.toNat nj.toNat = nb at *
            have HNB := Lib.hid hnb; clear hnb
            by_cases h5 : nb.length ≤ 505
            · have hnew := HNX.out
              rw [if_pos ⟨hfit, h5⟩] at hnew
              have HNEW := Lib.hid hnew; clear hnew
              have h5' : (nb.length : Int) ≤ 505 := by omega
              clear hfit
              go_wp2_with fail
              go_roundg (l.length - (j + 1))
              case rel => exact ⟨j + 1, nb, A5, c5, by omega, rfl, by go_num, HNEW.out, h5, HS5.out, HR5.out, HB5.out⟩
              case measure => omega
            · have hnew := HNX.out
              rw [if_neg (fun h => h5 h.2)] at hnew
              have hm := makeR_none (k := k) (rest := rest.data.toList) (HSTOP.out hnew)
              have HM := Lib.hid hm; clear hm hnew
              have h5' : (505 : Int) < (nb.length : Int) := by omega
              clear hfit
              go_wp2_with fail
              go_ret2
              show MakePost w (makeR k rest.data.toList ws l) _ _
              rw [HM.out]
              exact ⟨rfl, HB5.out⟩
          · rw [if_neg hfit] at hpost
            obtain ⟨hs5, hg5⟩ := hpost
            have hB5 : Below w.heap.size w w5 := below_only ((HB.out.alloc hsz (Obj.cells #[Value.int IntKind.i64 nj] 3)).drew) hg5 (Nat.le_refl _)
            have d1 : w5.cell? ⟨w.heap.size, 1, none⟩ = some (.int .i64 2) := by rw [hs5.cell 1]; rfl
            have hnew := HNX.out
            rw [if_neg (fun h => hfit h.1)] at hnew
            have hm := makeR_none (k := k) (rest := rest.data.toList) (HSTOP.out hnew)
            have HM := Lib.hid hm; clear hm hnew
            have HB5 := Lib.hid hB5; clear hB5 hg5 hs5 hfit
            go_wp2_with fail
            go_ret2
            show MakePost w (makeR k rest.data.toList ws l) _ _
            rw [HM.out]
            exact ⟨rfl, HB5.out⟩
      · obtain rfl : j = l.length := by omega
        have hf := HF.out
        rw [List.take_length, List.take_of_length_le (by omega)] at hf
        have hm := makeR_some (k := k) (rest := rest.data.toList) hf
        have HM := Lib.hid hm; clear hm hf
        have d0 : wr.cell? ⟨w.heap.size, 0, none⟩ = some (.slice A b.length c) := by rw [hs.cell 0]; rfl
        have hcv := run_string_of (P := Try.prog) wr 58 9 5 Try.underlying58 Try.underlying5 Try.underlying9 wr.heap.size A c b hr
        have hms := mkS_size b
        have hse := sealed_any w.heap.size A b.length c k (mkS b ++ rest) wr hk hs
        rw [show (mkS b ++ rest).data.toList = b ++ rest.data.toList by simp [mkS]] at hse
        have HSE := Lib.hid hse; clear hse hs hr
        go_wp2_with fail
        refine HSE.out.mono ?_
        rintro e w5 ⟨rfl, hg5⟩
        have HB5 := Lib.hid (below_only hB hg5 (Nat.le_refl _)); clear hg5
        go_wp2_with fail
        go_ret2
        show MakePost w (makeR k rest.data.toList ws l) _ _
        rw [HM.out]
        exact ⟨rfl, HB5.out⟩
  · have hlb : ((ws.length : Int) != (l.length : Int)) = true := by simp; omega
    have hm := makeR_none (k := k) (rest := rest.data.toList) (fieldsB_len [] ws l hlen)
    rw [hm]
    clear hw hl hm hlen
    go_enter Try.func99, Try.ntmps99
    go_wp2_with fail
    go_ret2
    exact ⟨rfl, (Below.refl _ _).alloc (Nat.le_refl _) _⟩
end Go.Proofs.Ytllijcnbjbfabaa

namespace Go.Proofs.Ytllijcnbjbfabaa
open Go.RowKit

def FieldsPost (w : World) (r : List Int × Bs × Int) (e : Ending) (w' : World) : Prop :=
  ∃ v, e = .returned (.tuple #[v, .string (mkS r.2.1), .int .i64 r.2.2]) ∧ w'.ownsRow w.heap.size 3 1 v r.1.length (icells r.1) ∧ Below w.heap.size w w'

theorem fieldsR_bad {k : Int} {s : Bs} {ws : List Int} (h : (ofR k s).2 ≠ 0) : fieldsR k s ws = ([], [], (ofR k s).2) := by rw [fieldsR, if_neg h]
theorem fieldsR_none {k : Int} {s : Bs} {ws : List Int} (h : (ofR k s).2 = 0) (ht : takeF (ofR k s).1 ws = none) : fieldsR k s ws = ([], [], 30) := by rw [fieldsR, if_pos h, ht]
theorem fieldsR_some {k : Int} {s : Bs} {ws : List Int} {r : List Int × Bs} (h : (ofR k s).2 = 0) (ht : takeF (ofR k s).1 ws = some r) : fieldsR k s ws = (r.1, r.2, 0) := by rw [fieldsR, if_pos h, ht]
theorem take_next {load : Bs} {ws : List Int} {j : Nat} {r : List Int × Bs} (hj : j < ws.length) (h : takeF load (ws.take j) = some r) :
    takeF load (ws.take (j + 1)) = if (getS r.2 0 ws[j]).2 = 0 then some (r.1 ++ [(getS r.2 0 ws[j]).1], r.2.drop ws[j].toNat) else none := by
  rw [List.take_succ_eq_append_getElem hj, takeF_snoc, h]; rfl
theorem take_stop {load : Bs} {ws : List Int} {j : Nat} (h : takeF load (ws.take (j + 1)) = none) : takeF load ws = none := by
  have := takeF_none load _ (ws.drop (j + 1)) h
  rwa [List.take_append_drop] at this
theorem extract_end (s : ByteArray) (k : Nat) : s.extract k s.size = mkS (s.data.toList.drop k) := by
  rw [← mkS_self (s.extract k s.size), Lib.extract_data]
  congr 1
  exact List.take_of_length_le (by simp)

set_option maxHeartbeats 1000000 in
theorem Ints_any (A B : Option Addr) (ca cb : Nat) (a b : List Int) (w : World) (hal : a.length ≤ 1000000000) (hbl : b.length ≤ 1000000000)
    (ha : Reads w w.heap.size 1 A a.length (icells a)) (hb : Reads w w.heap.size 1 B b.length (icells b)) :
    Calls Try.prog 69 #[.slice A a.length ca, .slice B b.length cb] w fun e w' => e = .returned (.bool (decide (a = b))) ∧ Below w.heap.size w w' := by
  by_cases hlen : a.length = b.length
  · have hlb : ((a.length : Int) != (b.length : Int)) = false := by simp [hlen]
    have hle1 : a.length ≤ b.length := by omega
    have HLEN := Lib.hid hlen; clear hlen
    have HA := Lib.hid ha; clear ha
    have HB := Lib.hid hb; clear hb
    go_enter Try.func69, Try.ntmps69
    go_wp2_with fail
    go_loopg [5] a.length (fun k i wr => ∃ j : Nat, j ≤ a.length ∧ k = a.length - j ∧ i = .int .i64 j ∧ a.take j = b.take j ∧ Below w.heap.size w wr)
    case atStart => exact ⟨0, by omega, rfl, rfl, rfl, Below.refl _ _⟩
    case round =>
      obtain ⟨j, hj, rfl, rfl, ht, hB⟩ := hrel
      have HT := Lib.hid ht; clear ht
      by_cases hlt : j < a.length
      · have hlt2 : j < b.length := by omega
        obtain ⟨aa, rfl, _, hca⟩ := (HA.out.below hB).cell_ hlt (icells_get a j hlt)
        obtain ⟨bb, rfl, _, hcb⟩ := (HB.out.below hB).cell_ hlt2 (icells_get b j hlt2)
        have hi1 : (0 : Int) ≤ (j : Int) := by omega
        have hi2 : (j : Int) < (a.length : Int) := by omega
        have hi3 : (j : Int) < (b.length : Int) := by omega
        by_cases heq : a[j] = b[j]
        · have hnb : (a[j] != b[j]) = false := by simp [heq]
          have HEQ := Lib.hid heq; clear heq
          go_wp2_with fail
          go_quiet (fail)
          go_wp2_with fail
          go_roundg (a.length - (j + 1))
          case rel => exact ⟨j + 1, by omega, rfl, by go_num, by rw [List.take_succ_eq_append_getElem hlt, List.take_succ_eq_append_getElem hlt2, HT.out, HEQ.out], below_drewN hB _⟩
          case measure => omega
        · have hnb : (a[j] != b[j]) = true := by simp [heq]
          have hd : decide (a = b) = false := decide_eq_false (by rintro rfl; exact heq rfl)
          have HD := Lib.hid hd; clear hd heq
          go_wp2_with fail
          go_quiet (fail)
          go_wp2_with fail
          go_ret
          exact ⟨by rw [HD.out]; rfl, below_drewN hB _⟩
      · obtain rfl : j = a.length := by omega
        have hd : decide (a = b) = true := by
          have ht := HT.out
          rw [List.take_length, List.take_of_length_le (by have := HLEN.out; omega)] at ht
          exact decide_eq_true ht
        have HD := Lib.hid hd; clear hd
        go_wp2_with fail
        go_ret
        exact ⟨by rw [HD.out]; rfl, hB⟩
  · have hlb : ((a.length : Int) != (b.length : Int)) = true := by simp; omega
    have hd : decide (a = b) = false := decide_eq_false (by rintro rfl; exact hlen rfl)
    rw [hd]
    clear ha hb hlen hd
    go_enter Try.func69, Try.ntmps69
    go_wp2_with fail
    go_ret
    exact ⟨rfl, Below.refl _ _⟩
end Go.Proofs.Ytllijcnbjbfabaa

namespace Go.Proofs.Ytllijcnbjbfabaa
open Go.RowKit

def PutU (w : World) (r : Option Bs) (A : Option Addr) (n : Nat) (ec : Int) (w' : World) : Prop :=
  match r with
  | some x => ec = 0 ∧ n = x.length ∧ Reads w' w'.heap.size 1 A x.length (bcells x) ∧ Below w.heap.size w w'
  | none => ec = 2 ∧ Below w.heap.size w w'
theorem put_uni {w w' : World} {r : Option Bs} {e : Ending} (h : PutPost w r e w') : ∃ A n c ec, e = .returned (.tuple #[.slice A n c, .int .i64 ec]) ∧ PutU w r A n ec w' := by
  cases r with
  | none => obtain ⟨rfl, hB⟩ := h; exact ⟨_, _, _, _, rfl, rfl, hB⟩
  | some x =>
    obtain ⟨v, rfl, hown, hB⟩ := h
    obtain ⟨A, c, rfl, -, -, hr⟩ := own_reads hown
    exact ⟨_, _, _, _, rfl, rfl, rfl, hr, hB⟩

set_option maxHeartbeats 1000000 in
set_option maxRecDepth 100000 in
theorem rMake_any (k : Int) (rest : ByteArray) (Aw Al : Option Addr) (cw cl : Nat) (ws l : List Int) (w : World) (hk : k ≤ 127) (hrest : rest.size ≤ 1000000) (_hll : l.length ≤ 1000000) (hwl : ws.length ≤ 1000000)
    (hw : Reads w w.heap.size 1 Aw ws.length (icells ws)) (hl : Reads w w.heap.size 1 Al l.length (icells l)) :
    Calls Try.prog 51 #[.int .i8 k, .string rest, .slice Aw ws.length cw, .slice Al l.length cl] w fun e w' => MakePost w (makeR k rest.data.toList ws l) e w' := by
  by_cases hlen : ws.length = l.length
  · have hlb : ((ws.length : Int) != (l.length : Int)) = false := by simp [hlen]
    have hlw : l.length ≤ ws.length := by omega
    have hlw2 : ws.length ≤ l.length := by omega
    clear hlen
    have HW := Lib.hid hw; clear hw
    have HL := Lib.hid hl; clear hl
    go_enter Try.func51, Try.ntmps51
    go_wp2_with fail
    go_loopg [10, 11] l.length (fun gk v i wr => ∃ (j : Nat) (b : Bs) (A : Option Addr) (c : Nat), j ≤ l.length ∧ gk = l.length - j ∧ i = .int .i64 j ∧ v = .slice A b.length c ∧ fieldsB [] (ws.take j) (l.take j) = some b ∧ b.length ≤ 505 ∧
        Reads wr wr.heap.size 1 A b.length (bcells b) ∧ Below w.heap.size w wr)
    case atStart => exact ⟨0, [], none, 0, by omega, rfl, rfl, rfl, rfl, by simp, Reads.none_, Below.refl _ _⟩
    case round =>
      obtain ⟨j, b, A, c, hj, rfl, rfl, rfl, hf, hb5, hr, hB⟩ := hrel
      have HF := Lib.hid hf; clear hf
      by_cases hlt : j < l.length
      · have hlt2 : j < ws.length := by omega
        obtain ⟨al, rfl, hal, hcl⟩ := (HL.out.below hB).cell_ hlt (icells_get l j hlt)
        obtain ⟨aw, rfl, haw, hcw⟩ := (HW.out.below hB).cell_ hlt2 (icells_get ws j hlt2)
        have hnx := fields_next hlt2 hlt HF.out
        have hps := putS_single b ws[j] l[j]
        have HNX := Lib.hid hnx; clear hnx
        have HPS := Lib.hid hps; clear hps
        have HSTOP := Lib.hid (@fields_stop ws l j hlt2 hlt)
        generalize ws[j] = wj at *
        generalize l[j] = nj at *
        have HR := Lib.hid hr; clear hr
        have hsz := hB.size
        have HB := Lib.hid hB; clear hB
        have hcw2 : ∀ o, (wr.alloc o).cell? (aw.add j) = some (.int .i64 wj) := fun o => (World.cell?_alloc_lt wr o (aw.add j) (by rw [block_of_add]; omega)).trans hcw
        have hi1 : (0 : Int) ≤ (j : Int) := by omega
        have hi2 : (j : Int) < (ws.length : Int) := by omega
        have hi3 : (j : Int) < (l.length : Int) := by omega
        go_wp2_with fail
        go_region_with (first
          | (go_at_call 43; refine (rPut_any A (some ⟨wr.heap.size, 0, none⟩) c 1 wj b [nj] _ (by simp; omega) (by exact (HR.out.alloc (Nat.le_refl _) _).more (by simp)) (by exact reads_blk (Blk.new wr 3 #[Value.int IntKind.i64 nj]) rfl rfl)).mono ?_; intro e w5 hpost; obtain ⟨A5, n5, c5, ec, rfl, hU⟩ := put_uni hpost; clear hpost))
        all_goals
          rw [HPS.out] at hU
          by_cases hfit : fitsB nj wj = true
          · rw [if_pos hfit] at hU
            obtain ⟨rfl, rfl, hr5, hB5'⟩ := hU
            have hB5 : Below w.heap.size w w5 := below_step ((HB.out.alloc hsz (Obj.cells #[Value.int IntKind.i64 nj] 3)).drew) hB5' (by exact (HB.out.alloc hsz (Obj.cells #[Value.int IntKind.i64 nj] 3)).size)
            have HR5 := Lib.hid hr5; clear hr5
            have HB5 := Lib.hid hB5; clear hB5 hB5'
            generalize hnb : b ++ leBytes wj.toNat nj.toNat = nb at *
            have HNB := Lib.hid hnb; clear hnb
            by_cases h5 : nb.length ≤ 505
            · have hnew := HNX.out
              rw [if_pos ⟨hfit, h5⟩] at hnew
              have HNEW := Lib.hid hnew; clear hnew
              have h5' : (nb.length : Int) ≤ 505 := by omega
              clear hfit
              go_wp2_with fail
              go_roundg (l.length - (j + 1))
              case rel => exact ⟨j + 1, nb, A5, c5, by omega, rfl, by go_num, rfl, HNEW.out, h5, HR5.out, HB5.out⟩
              case measure => omega
            · have hnew := HNX.out
              rw [if_neg (fun h => h5 h.2)] at hnew
              have hm := makeR_none (k := k) (rest := rest.data.toList) (HSTOP.out hnew)
              have HM := Lib.hid hm; clear hm hnew
              have h5' : (505 : Int) < (nb.length : Int) := by omega
              clear hfit
              go_wp2_with fail
              go_ret2
              show MakePost w (makeR k rest.data.toList ws l) _ _
              rw [HM.out]
              exact ⟨rfl, HB5.out⟩
          · rw [if_neg hfit] at hU
            obtain ⟨rfl, hB5'⟩ := hU
            have hB5 : Below w.heap.size w w5 := below_step ((HB.out.alloc hsz (Obj.cells #[Value.int IntKind.i64 nj] 3)).drew) hB5' (by exact (HB.out.alloc hsz (Obj.cells #[Value.int IntKind.i64 nj] 3)).size)
            have hnew := HNX.out
            rw [if_neg (fun h => hfit h.1)] at hnew
            have hm := makeR_none (k := k) (rest := rest.data.toList) (HSTOP.out hnew)
            have HM := Lib.hid hm; clear hm hnew
            have HB5 := Lib.hid hB5; clear hB5 hB5' hfit
            go_wp2_with fail
            go_ret2
            show MakePost w (makeR k rest.data.toList ws l) _ _
            rw [HM.out]
            exact ⟨rfl, HB5.out⟩
      · obtain rfl : j = l.length := by omega
        have hf := HF.out
        rw [List.take_length, List.take_of_length_le (by omega)] at hf
        have hm := makeR_some (k := k) (rest := rest.data.toList) hf
        have HM := Lib.hid hm; clear hm hf
        have hcv := run_string_of (P := Try.prog) wr 58 9 5 Try.underlying58 Try.underlying5 Try.underlying9 wr.heap.size A c b hr
        have hms := mkS_size b
        have hse := rSeal_any k (mkS b ++ rest) wr hk (by rw [ByteArray.size_append, hms]; omega)
        rw [show (mkS b ++ rest).data.toList = b ++ rest.data.toList by simp [mkS]] at hse
        have HSE := Lib.hid hse; clear hse hr
        go_wp2_with fail
        refine HSE.out.mono ?_
        rintro e w5 ⟨rfl, hg5⟩
        have HB5 := Lib.hid (below_step hB hg5 hB.size); clear hg5
        go_wp2_with fail
        go_ret2
        show MakePost w (makeR k rest.data.toList ws l) _ _
        rw [HM.out]
        exact ⟨rfl, HB5.out⟩
  · have hlb : ((ws.length : Int) != (l.length : Int)) = true := by simp; omega
    have hm := makeR_none (k := k) (rest := rest.data.toList) (fieldsB_len [] ws l hlen)
    rw [hm]
    clear hw hl hm hlen
    go_enter Try.func51, Try.ntmps51
    go_wp2_with fail
    go_ret2
    exact ⟨rfl, Below.refl _ _⟩

theorem getS_drop (l : Bs) (a : Nat) (w : Int) (h : a ≤ l.length) : getS l a w = getS (l.drop a) 0 w := by
  unfold getS
  by_cases hw : 1 ≤ w ∧ w ≤ 6
  · rw [if_pos hw, if_pos hw]
    have e0 : (0 ≤ (0 : Int) ∧ (0 : Int) + w ≤ ((l.drop a).length : Int)) = (0 ≤ (a : Int) ∧ (a : Int) + w ≤ (l.length : Int)) := by
      rw [List.length_drop]; apply propext; omega
    simp only [e0, Int.toNat_natCast, Int.toNat_zero, List.drop_zero]
  · rw [if_neg hw, if_neg hw]

end Go.Proofs.Ytllijcnbjbfabaa

namespace Go.Proofs.Ytllijcnbjbfabaa
open Go.RowKit

/-- numbers that stand one between the others -/
def upB (l : List Int) : Prop := ∀ t (h : t + 1 < l.length), l[t] ≤ l[t + 1]

set_option maxHeartbeats 1000000 in
theorem within_any (A : Option Addr) (c : Nat) (l : List Int) (b : Bool) (w : World) (hl : l.length ≤ 1000000) (hb : b = true ↔ upB l) (hr : Reads w w.heap.size 1 A l.length (icells l)) :
    Calls Try.prog 127 #[.slice A l.length c] w fun e w' => e = .returned (.bool b) ∧ Below w.heap.size w w' := by
  have HR := Lib.hid hr; clear hr
  have HB := Lib.hid hb; clear hb
  go_enter Try.func127, Try.ntmps127
  go_wp2_with fail
  go_loopg [3] l.length (fun k i wr => ∃ j : Nat, j ≤ l.length ∧ k = l.length - j ∧ i = .int .i64 ((j + 1 : Nat) : Int) ∧ (∀ t (h : t + 1 < l.length), t < j → l[t] ≤ l[t + 1]) ∧ Below w.heap.size w wr)
  case atStart => exact ⟨0, by omega, rfl, rfl, fun t _ h => absurd h (by omega), Below.refl _ _⟩
  case round =>
    obtain ⟨j, hj, rfl, rfl, hup, hB⟩ := hrel
    have HU := Lib.hid hup; clear hup
    by_cases hlt : j + 1 < l.length
    · obtain ⟨ad, rfl, _, hc1⟩ := (HR.out.below hB).cell_ hlt (icells_get l (j + 1) hlt)
      obtain ⟨ad', e', _, hc0⟩ := (HR.out.below hB).cell_ (show j < l.length by omega) (icells_get l j (by omega))
      injection e' with e'
      subst e'
      obtain ⟨x, hx⟩ : ∃ x, l[j]'(by omega) = x := ⟨_, rfl⟩
      obtain ⟨y, hy⟩ : ∃ y, l[j + 1] = y := ⟨_, rfl⟩
      rw [hx] at hc0
      rw [hy] at hc1
      have HX := Lib.hid hx; clear hx
      have HY := Lib.hid hy; clear hy
      have hc1' : wr.cell? ⟨ad.block, ad.off + (j + 1), none⟩ = some (.int .i64 y) := by simpa [Addr.add] using hc1
      have hwj : IntKind.i64.wrap (j : Int) = (j : Int) := wrap_i64_nat j (by omega)
      have hi1 : (0 : Int) ≤ (j : Int) := by omega
      have hi2 : (j : Int) < (l.length : Int) := by omega
      have hi3 : (0 : Int) ≤ (j : Int) + 1 := by omega
      have hi4 : (j : Int) + 1 < (l.length : Int) := by omega
      have hi5 : ((j : Int) + 1).toNat = j + 1 := by omega
      by_cases hle : x ≤ y
      · have hd : decide (y < x) = false := by simp; omega
        go_wp2_with fail
        go_quiet (fail)
        clear hwj hi5
        go_wp2_with fail
        go_roundg (l.length - (j + 1))
        case rel =>
          refine ⟨j + 1, by omega, rfl, by go_num, fun t h ht => ?_, below_drewN hB _⟩
          rcases Nat.lt_or_ge t j with h1 | h1
          · exact HU.out t h h1
          · obtain rfl : t = j := by omega
            rw [HX.out, HY.out]; exact hle
        case measure => omega
      · have hd : decide (y < x) = true := by simp; omega
        have hbf : b = false := by
          cases b with
          | false => rfl
          | true => exact absurd (by have := HB.out.1 rfl j hlt; rwa [HX.out, HY.out] at this) hle
        have HBF := Lib.hid hbf; clear hbf
        go_wp2_with fail
        go_quiet (fail)
        clear hwj hi5
        go_wp2_with fail
        go_ret
        exact ⟨by rw [HBF.out]; rfl, below_drewN hB _⟩
    · have hbt : b = true := HB.out.2 (fun t h => HU.out t h (by omega))
      have HBT := Lib.hid hbt; clear hbt
      go_wp2_with fail
      go_ret
      exact ⟨by rw [HBT.out]; rfl, hB⟩

theorem up3 (a b c : Int) : decide (a ≤ b ∧ b ≤ c) = true ↔ upB [a, b, c] := by
  rw [decide_eq_true_eq]
  constructor
  · rintro ⟨h1, h2⟩ t h
    match t, h with
    | 0, _ => exact h1
    | 1, _ => exact h2
  · intro h
    exact ⟨h 0 (by simp), h 1 (by simp)⟩
theorem up4 (a b c d : Int) : decide (a ≤ b ∧ b ≤ c ∧ c ≤ d) = true ↔ upB [a, b, c, d] := by
  rw [decide_eq_true_eq]
  constructor
  · rintro ⟨h1, h2, h3⟩ t h
    match t, h with
    | 0, _ => exact h1
    | 1, _ => exact h2
    | 2, _ => exact h3
  · intro h
    exact ⟨h 0 (by simp), h 1 (by simp), h 2 (by simp)⟩
theorem within3 (g c : Nat) (x y z : Int) (w : World) (hb : Blk w g 3 #[.int .i64 x, .int .i64 y, .int .i64 z]) :
    Calls Try.prog 127 #[.slice (some ⟨g, 0, none⟩) 3 c] w fun e w' => e = .returned (.bool (decide (x ≤ y ∧ y ≤ z))) ∧ Below w.heap.size w w' :=
  within_any _ c [x, y, z] _ w (by simp) (up3 x y z) (reads_blk hb rfl rfl)
theorem within4 (g c : Nat) (x y z u : Int) (w : World) (hb : Blk w g 3 #[.int .i64 x, .int .i64 y, .int .i64 z, .int .i64 u]) :
    Calls Try.prog 127 #[.slice (some ⟨g, 0, none⟩) 4 c] w fun e w' => e = .returned (.bool (decide (x ≤ y ∧ y ≤ z ∧ z ≤ u))) ∧ Below w.heap.size w w' :=
  within_any _ c [x, y, z, u] _ w (by simp) (up4 x y z u) (reads_blk hb rfl rfl)
end Go.Proofs.Ytllijcnbjbfabaa

namespace Go.Proofs.Ytllijcnbjbfabaa
open Go.RowKit

theorem Blk.cells8 {w : World} {g : Nat} {t : TypeId} {a0 a1 a2 a3 a4 a5 a6 a7 : Value} (h : Blk w g t #[a0, a1, a2, a3, a4, a5, a6, a7]) :
    w.cell? ⟨g, 0, none⟩ = some a0 ∧ w.cell? ⟨g, 1, none⟩ = some a1 ∧ w.cell? ⟨g, 2, none⟩ = some a2 ∧ w.cell? ⟨g, 3, none⟩ = some a3 ∧ w.cell? ⟨g, 4, none⟩ = some a4 ∧ w.cell? ⟨g, 5, none⟩ = some a5 ∧ w.cell? ⟨g, 6, none⟩ = some a6 ∧ w.cell? ⟨g, 7, none⟩ = some a7 :=
  ⟨h.cell 0, h.cell 1, h.cell 2, h.cell 3, h.cell 4, h.cell 5, h.cell 6, h.cell 7⟩
theorem below2 (w : World) (o o' : Obj) : Below w.heap.size w ((w.alloc o).alloc o') := ((Below.refl _ _).alloc (Nat.le_refl _) o).alloc (by simp) o'

set_option maxHeartbeats 4000000 in
set_option maxRecDepth 100000 in
theorem May_any (g : Geo) (w : World) (hw1 : -9223372036854775808 ≤ g.wait) (hw2 : g.wait ≤ 9223372036854775807) :
    Calls Try.prog 109 #[g.v] w fun e w' => e = .returned (.bool g.may) ∧ Below w.heap.size w w' := by
  obtain ⟨n, s, b, p, j, l, le, wt⟩ := g
  dsimp only at hw1 hw2
  have hm : Geo.may ⟨n, s, b, p, j, l, le, wt⟩ = decide ((1 ≤ s ∧ s ≤ n ∧ n ≤ 16) ∧ (1 ≤ b ∧ b ≤ 64) ∧ (1 ≤ p ∧ p ≤ 8) ∧ (p + 2 ≤ j ∧ j ≤ 64) ∧ (8 * s ≤ l ∧ l ≤ 512) ∧ (1 ≤ le ∧ le ≤ wt - 1 ∧ wt - 1 ≤ 1048575)) := by
    unfold Geo.may
    rw [decide_eq_decide]
    dsimp only
    omega
  rw [hm]
  have HM := Lib.hid hm; clear hm
  go_enter Try.func109, Try.ntmps109
  go_wp2_with fail
  have HG0 : Hid (Blk ((w.alloc (Obj.cells #[.int .i64 n, .int .i64 s, .int .i64 b, .int .i64 p, .int .i64 j, .int .i64 l, .int .i64 le, .int .i64 wt] 23)).alloc (Obj.cells #[.int .i64 1, .int .i64 s, .int .i64 n, .int .i64 16] 3)) w.heap.size 23 #[.int .i64 n, .int .i64 s, .int .i64 b, .int .i64 p, .int .i64 j, .int .i64 l, .int .i64 le, .int .i64 wt]) := (Blk.new w _ _).alloc _
  have HB0 : Hid (Below w.heap.size w ((w.alloc (Obj.cells #[.int .i64 n, .int .i64 s, .int .i64 b, .int .i64 p, .int .i64 j, .int .i64 l, .int .i64 le, .int .i64 wt] 23)).alloc (Obj.cells #[.int .i64 1, .int .i64 s, .int .i64 n, .int .i64 16] 3))) := below2 _ _ _
  have hs0 : Blk ((w.alloc (Obj.cells #[.int .i64 n, .int .i64 s, .int .i64 b, .int .i64 p, .int .i64 j, .int .i64 l, .int .i64 le, .int .i64 wt] 23)).alloc (Obj.cells #[.int .i64 1, .int .i64 s, .int .i64 n, .int .i64 16] 3)) (w.heap.size + 1) 3 #[.int .i64 1, .int .i64 s, .int .i64 n, .int .i64 16] := by
    have h := Blk.new (w.alloc (Obj.cells #[.int .i64 n, .int .i64 s, .int .i64 b, .int .i64 p, .int .i64 j, .int .i64 l, .int .i64 le, .int .i64 wt] 23)) 3 #[.int .i64 1, .int .i64 s, .int .i64 n, .int .i64 16]
    rwa [show (w.alloc (Obj.cells #[.int .i64 n, .int .i64 s, .int .i64 b, .int .i64 p, .int .i64 j, .int .i64 l, .int .i64 le, .int .i64 wt] 23)).heap.size = w.heap.size + 1 by simp] at h
  refine (within4 _ _ 1 s n 16 _ hs0).mono ?_
  rintro e w1 ⟨rfl, hB1⟩
  have hbG := HG0.out.below hB1 HG0.out.lt
  have hB := below_step HB0.out hB1 HB0.out.size
  clear hB1 HG0 HB0
  obtain ⟨g0, g1, g2, g3, g4, g5, g6, g7⟩ := hbG.cells8
  have HG := Lib.hid hbG; clear hbG
  have HB := Lib.hid hB; clear hB
  by_cases c0 : 1 ≤ s ∧ s ≤ n ∧ n ≤ 16
  case neg =>
    have hf : decide ((1 ≤ s ∧ s ≤ n ∧ n ≤ 16) ∧ (1 ≤ b ∧ b ≤ 64) ∧ (1 ≤ p ∧ p ≤ 8) ∧ (p + 2 ≤ j ∧ j ≤ 64) ∧ (8 * s ≤ l ∧ l ≤ 512) ∧ (1 ≤ le ∧ le ≤ wt - 1 ∧ wt - 1 ≤ 1048575)) = false := decide_eq_false (fun h => c0 h.1)
    have HF := Lib.hid hf; clear hf
    have hd : decide (1 ≤ s ∧ s ≤ n ∧ n ≤ 16) = false := decide_eq_false c0
    generalize decide (1 ≤ s ∧ s ≤ n ∧ n ≤ 16) = bb at *
    subst hd
    clear c0
    go_wp2_with fail
    go_ret
    exact ⟨by rw [HF.out]; rfl, HB.out⟩
  rw [decide_eq_true c0]
  go_wp2_with fail
  have HG0 : Hid (Blk (w1.alloc (Obj.cells #[.int .i64 1, .int .i64 b, .int .i64 64] 3)) w.heap.size 23 #[.int .i64 n, .int .i64 s, .int .i64 b, .int .i64 p, .int .i64 j, .int .i64 l, .int .i64 le, .int .i64 wt]) := HG.out.alloc _
  have HB0 : Hid (Below w.heap.size w (w1.alloc (Obj.cells #[.int .i64 1, .int .i64 b, .int .i64 64] 3))) := HB.out.alloc HB.out.size _
  clear HG HB g0 g1 g2 g3 g4 g5 g6 g7
  refine (within3 _ _ 1 b 64 _ (Blk.new w1 _ _)).mono ?_
  rintro e w2 ⟨rfl, hB1⟩
  have hbG := HG0.out.below hB1 HG0.out.lt
  have hB := below_step HB0.out hB1 HB0.out.size
  clear hB1 HG0 HB0
  obtain ⟨g0, g1, g2, g3, g4, g5, g6, g7⟩ := hbG.cells8
  have HG := Lib.hid hbG; clear hbG
  have HB := Lib.hid hB; clear hB
  by_cases c1 : 1 ≤ b ∧ b ≤ 64
  case neg =>
    have hf : decide ((1 ≤ s ∧ s ≤ n ∧ n ≤ 16) ∧ (1 ≤ b ∧ b ≤ 64) ∧ (1 ≤ p ∧ p ≤ 8) ∧ (p + 2 ≤ j ∧ j ≤ 64) ∧ (8 * s ≤ l ∧ l ≤ 512) ∧ (1 ≤ le ∧ le ≤ wt - 1 ∧ wt - 1 ≤ 1048575)) = false := decide_eq_false (fun h => c1 h.2.1)
    have HF := Lib.hid hf; clear hf
    have hd : decide (1 ≤ b ∧ b ≤ 64) = false := decide_eq_false c1
    generalize decide (1 ≤ b ∧ b ≤ 64) = bb at *
    subst hd
    clear c1
    go_wp2_with fail
    go_ret
    exact ⟨by rw [HF.out]; rfl, HB.out⟩
  rw [decide_eq_true c1]
  go_wp2_with fail
  have HG0 : Hid (Blk (w2.alloc (Obj.cells #[.int .i64 1, .int .i64 p, .int .i64 8] 3)) w.heap.size 23 #[.int .i64 n, .int .i64 s, .int .i64 b, .int .i64 p, .int .i64 j, .int .i64 l, .int .i64 le, .int .i64 wt]) := HG.out.alloc _
  have HB0 : Hid (Below w.heap.size w (w2.alloc (Obj.cells #[.int .i64 1, .int .i64 p, .int .i64 8] 3))) := HB.out.alloc HB.out.size _
  clear HG HB g0 g1 g2 g3 g4 g5 g6 g7
  refine (within3 _ _ 1 p 8 _ (Blk.new w2 _ _)).mono ?_
  rintro e w3 ⟨rfl, hB1⟩
  have hbG := HG0.out.below hB1 HG0.out.lt
  have hB := below_step HB0.out hB1 HB0.out.size
  clear hB1 HG0 HB0
  obtain ⟨g0, g1, g2, g3, g4, g5, g6, g7⟩ := hbG.cells8
  have HG := Lib.hid hbG; clear hbG
  have HB := Lib.hid hB; clear hB
  by_cases c2 : 1 ≤ p ∧ p ≤ 8
  case neg =>
    have hf : decide ((1 ≤ s ∧ s ≤ n ∧ n ≤ 16) ∧ (1 ≤ b ∧ b ≤ 64) ∧ (1 ≤ p ∧ p ≤ 8) ∧ (p + 2 ≤ j ∧ j ≤ 64) ∧ (8 * s ≤ l ∧ l ≤ 512) ∧ (1 ≤ le ∧ le ≤ wt - 1 ∧ wt - 1 ≤ 1048575)) = false := decide_eq_false (fun h => c2 h.2.2.1)
    have HF := Lib.hid hf; clear hf
    have hd : decide (1 ≤ p ∧ p ≤ 8) = false := decide_eq_false c2
    generalize decide (1 ≤ p ∧ p ≤ 8) = bb at *
    subst hd
    clear c2
    go_wp2_with fail
    go_ret
    exact ⟨by rw [HF.out]; rfl, HB.out⟩
  rw [decide_eq_true c2]
  go_wp2_with fail
  have HG0 : Hid (Blk (w3.alloc (Obj.cells #[.int .i64 (p + 2), .int .i64 j, .int .i64 64] 3)) w.heap.size 23 #[.int .i64 n, .int .i64 s, .int .i64 b, .int .i64 p, .int .i64 j, .int .i64 l, .int .i64 le, .int .i64 wt]) := HG.out.alloc _
  have HB0 : Hid (Below w.heap.size w (w3.alloc (Obj.cells #[.int .i64 (p + 2), .int .i64 j, .int .i64 64] 3))) := HB.out.alloc HB.out.size _
  clear HG HB g0 g1 g2 g3 g4 g5 g6 g7
  refine (within3 _ _ (p + 2) j 64 _ (Blk.new w3 _ _)).mono ?_
  rintro e w4 ⟨rfl, hB1⟩
  have hbG := HG0.out.below hB1 HG0.out.lt
  have hB := below_step HB0.out hB1 HB0.out.size
  clear hB1 HG0 HB0
  obtain ⟨g0, g1, g2, g3, g4, g5, g6, g7⟩ := hbG.cells8
  have HG := Lib.hid hbG; clear hbG
  have HB := Lib.hid hB; clear hB
  by_cases c3 : p + 2 ≤ j ∧ j ≤ 64
  case neg =>
    have hf : decide ((1 ≤ s ∧ s ≤ n ∧ n ≤ 16) ∧ (1 ≤ b ∧ b ≤ 64) ∧ (1 ≤ p ∧ p ≤ 8) ∧ (p + 2 ≤ j ∧ j ≤ 64) ∧ (8 * s ≤ l ∧ l ≤ 512) ∧ (1 ≤ le ∧ le ≤ wt - 1 ∧ wt - 1 ≤ 1048575)) = false := decide_eq_false (fun h => c3 h.2.2.2.1)
    have HF := Lib.hid hf; clear hf
    have hd : decide (p + 2 ≤ j ∧ j ≤ 64) = false := decide_eq_false c3
    generalize decide (p + 2 ≤ j ∧ j ≤ 64) = bb at *
    subst hd
    clear c3
    go_wp2_with fail
    go_ret
    exact ⟨by rw [HF.out]; rfl, HB.out⟩
  rw [decide_eq_true c3]
  go_wp2_with fail
  have HG0 : Hid (Blk (w4.alloc (Obj.cells #[.int .i64 (8 * s), .int .i64 l, .int .i64 512] 3)) w.heap.size 23 #[.int .i64 n, .int .i64 s, .int .i64 b, .int .i64 p, .int .i64 j, .int .i64 l, .int .i64 le, .int .i64 wt]) := HG.out.alloc _
  have HB0 : Hid (Below w.heap.size w (w4.alloc (Obj.cells #[.int .i64 (8 * s), .int .i64 l, .int .i64 512] 3))) := HB.out.alloc HB.out.size _
  clear HG HB g0 g1 g2 g3 g4 g5 g6 g7
  refine (within3 _ _ (8 * s) l 512 _ (Blk.new w4 _ _)).mono ?_
  rintro e w5 ⟨rfl, hB1⟩
  have hbG := HG0.out.below hB1 HG0.out.lt
  have hB := below_step HB0.out hB1 HB0.out.size
  clear hB1 HG0 HB0
  obtain ⟨g0, g1, g2, g3, g4, g5, g6, g7⟩ := hbG.cells8
  have HG := Lib.hid hbG; clear hbG
  have HB := Lib.hid hB; clear hB
  by_cases c4 : 8 * s ≤ l ∧ l ≤ 512
  case neg =>
    have hf : decide ((1 ≤ s ∧ s ≤ n ∧ n ≤ 16) ∧ (1 ≤ b ∧ b ≤ 64) ∧ (1 ≤ p ∧ p ≤ 8) ∧ (p + 2 ≤ j ∧ j ≤ 64) ∧ (8 * s ≤ l ∧ l ≤ 512) ∧ (1 ≤ le ∧ le ≤ wt - 1 ∧ wt - 1 ≤ 1048575)) = false := decide_eq_false (fun h => c4 h.2.2.2.2.1)
    have HF := Lib.hid hf; clear hf
    have hd : decide (8 * s ≤ l ∧ l ≤ 512) = false := decide_eq_false c4
    generalize decide (8 * s ≤ l ∧ l ≤ 512) = bb at *
    subst hd
    clear c4
    go_wp2_with fail
    go_ret
    exact ⟨by rw [HF.out]; rfl, HB.out⟩
  rw [decide_eq_true c4]
  rcases Int.lt_or_eq_of_le hw1 with hw1 | hw1
  case inr =>
    have hf : decide ((1 ≤ s ∧ s ≤ n ∧ n ≤ 16) ∧ (1 ≤ b ∧ b ≤ 64) ∧ (1 ≤ p ∧ p ≤ 8) ∧ (p + 2 ≤ j ∧ j ≤ 64) ∧ (8 * s ≤ l ∧ l ≤ 512) ∧ (1 ≤ le ∧ le ≤ wt - 1 ∧ wt - 1 ≤ 1048575)) = false := decide_eq_false (fun h => by omega)
    have HF := Lib.hid hf; clear hf
    subst hw1
    go_wp2_with fail
    rw [show wrap64 (-9223372036854775809) = 9223372036854775807 from by decide +kernel]
    have HB0 : Hid (Below w.heap.size w (w5.alloc (Obj.cells #[.int .i64 1, .int .i64 le, .int .i64 9223372036854775807, .int .i64 1048575] 3))) := HB.out.alloc HB.out.size _
    clear HG HB g0 g1 g2 g3 g4 g5 g6 g7
    refine (within4 _ _ 1 le 9223372036854775807 1048575 _ (Blk.new w5 _ _)).mono ?_
    rintro e w6 ⟨rfl, hB1⟩
    have hB := below_step HB0.out hB1 HB0.out.size
    clear hB1 HB0
    have hd : decide ((1 : Int) ≤ le ∧ le ≤ 9223372036854775807 ∧ (9223372036854775807 : Int) ≤ 1048575) = false := decide_eq_false (fun h => by omega)
    rw [hd]
    clear hd
    have HB := Lib.hid hB; clear hB
    go_wp2_with fail
    go_ret
    exact ⟨by rw [HF.out]; rfl, HB.out⟩
  go_wp2_with fail
  have HG0 : Hid (Blk (w5.alloc (Obj.cells #[.int .i64 1, .int .i64 le, .int .i64 (wt - 1), .int .i64 1048575] 3)) w.heap.size 23 #[.int .i64 n, .int .i64 s, .int .i64 b, .int .i64 p, .int .i64 j, .int .i64 l, .int .i64 le, .int .i64 wt]) := HG.out.alloc _
  have HB0 : Hid (Below w.heap.size w (w5.alloc (Obj.cells #[.int .i64 1, .int .i64 le, .int .i64 (wt - 1), .int .i64 1048575] 3))) := HB.out.alloc HB.out.size _
  clear HG HB g0 g1 g2 g3 g4 g5 g6 g7
  refine (within4 _ _ 1 le (wt - 1) 1048575 _ (Blk.new w5 _ _)).mono ?_
  rintro e w6 ⟨rfl, hB1⟩
  have hbG := HG0.out.below hB1 HG0.out.lt
  have hB := below_step HB0.out hB1 HB0.out.size
  clear hB1 HG0 HB0
  obtain ⟨g0, g1, g2, g3, g4, g5, g6, g7⟩ := hbG.cells8
  have HG := Lib.hid hbG; clear hbG
  have HB := Lib.hid hB; clear hB
  by_cases c5 : 1 ≤ le ∧ le ≤ wt - 1 ∧ wt - 1 ≤ 1048575
  case neg =>
    have hf : decide ((1 ≤ s ∧ s ≤ n ∧ n ≤ 16) ∧ (1 ≤ b ∧ b ≤ 64) ∧ (1 ≤ p ∧ p ≤ 8) ∧ (p + 2 ≤ j ∧ j ≤ 64) ∧ (8 * s ≤ l ∧ l ≤ 512) ∧ (1 ≤ le ∧ le ≤ wt - 1 ∧ wt - 1 ≤ 1048575)) = false := decide_eq_false (fun h => c5 h.2.2.2.2.2)
    have HF := Lib.hid hf; clear hf
    have hd : decide (1 ≤ le ∧ le ≤ wt - 1 ∧ wt - 1 ≤ 1048575) = false := decide_eq_false c5
    generalize decide (1 ≤ le ∧ le ≤ wt - 1 ∧ wt - 1 ≤ 1048575) = bb at *
    subst hd
    clear c5
    go_wp2_with fail
    go_ret
    exact ⟨by rw [HF.out]; rfl, HB.out⟩
  rw [decide_eq_true c5]
  go_wp2_with fail
  go_ret
  exact ⟨by rw [decide_eq_true ⟨c0, c1, c2, c3, c4, c5⟩]; rfl, HB.out⟩
end Go.Proofs.Ytllijcnbjbfabaa

namespace Go.Proofs.Ytllijcnbjbfabaa
open Go.RowKit

abbrev geoVals (g : Geo) : List Value := [.int .i64 g.nodes, .int .i64 g.slots, .int .i64 g.blocks, .int .i64 g.per, .int .i64 g.journal, .int .i64 g.log, .int .i64 g.lease, .int .i64 g.wait]
abbrev sizedCells (g : Geo) (v : Value) : Array Value := #[v, .int .i64 g.nodes, .int .i64 g.slots, .int .i64 g.blocks, .int .i64 g.per, .int .i64 g.journal, .int .i64 g.log, .int .i64 g.lease, .int .i64 g.wait]

set_option maxHeartbeats 2000000 in
set_option maxRecDepth 100000 in
theorem bmay_any (g : Geo) (b : Nat) (A : Option Addr) (c : Nat) (l : List Pr) (w : World) (hw1 : -9223372036854775808 ≤ g.wait) (hw2 : g.wait ≤ 9223372036854775807) (hl : l.length ≤ 1000000)
    (hr : Reads w w.heap.size 2 A l.length (prCells l)) (hb : Blk w b 151 (sizedCells g (.slice A l.length c))) :
    Calls Try.prog 108 #[.pointer (some ⟨b, 0, none⟩)] w fun e w' => e = .returned (.bool (mayBk g l)) ∧ Below w.heap.size w w' := by
  have HM := Lib.hid (fun w => May_any g w hw1 hw2)
  have HR := Lib.hid hr; clear hr
  have HBK := Lib.hid hb
  obtain ⟨c0, c1, c2, c3, c4, c5, c6, c7, c8⟩ : w.cell? ⟨b, 0, none⟩ = some (.slice A l.length c) ∧ w.cell? ⟨b, 1, none⟩ = some (.int .i64 g.nodes) ∧ w.cell? ⟨b, 2, none⟩ = some (.int .i64 g.slots) ∧ w.cell? ⟨b, 3, none⟩ = some (.int .i64 g.blocks) ∧ w.cell? ⟨b, 4, none⟩ = some (.int .i64 g.per) ∧ w.cell? ⟨b, 5, none⟩ = some (.int .i64 g.journal) ∧ w.cell? ⟨b, 6, none⟩ = some (.int .i64 g.log) ∧ w.cell? ⟨b, 7, none⟩ = some (.int .i64 g.lease) ∧ w.cell? ⟨b, 8, none⟩ = some (.int .i64 g.wait) :=
    ⟨hb.cell 0, hb.cell 1, hb.cell 2, hb.cell 3, hb.cell 4, hb.cell 5, hb.cell 6, hb.cell 7, hb.cell 8⟩
  clear hb
  cases hmay : g.may with
  | false =>
    have hres : mayBk g l = false := by unfold mayBk; rw [hmay]; rfl
    rw [hres]
    rw [hmay] at HM
    clear hres hmay
    go_enter Try.func108, Try.ntmps108
    go_wp2_with fail
    refine (HM.out _).mono ?_
    rintro e w1 ⟨rfl, hB⟩
    go_wp2_with fail
    go_ret
    exact ⟨rfl, hB⟩
  | true =>
    have hok := Geo.may_ok hmay
    have hres : mayBk g l = upFrom g (-1) l := by unfold mayBk; rw [hmay]; rfl
    rw [hres]
    rw [hmay] at HM
    have hp1 := hok.p1
    have hp2 := hok.p2
    have hpw : IntKind.i64.wrap (g.per * 256) = g.per * 256 := by rw [IntKind.wrap_i64]; omega
    have HPW := Lib.hid hpw
    clear hres hmay hok hpw
    go_enter Try.func108, Try.ntmps108
    go_wp2_with fail
    refine (HM.out _).mono ?_
    rintro e w1 ⟨rfl, hB⟩
    have hbk := HBK.out.below hB HBK.out.lt
    have HBK1 := Lib.hid hbk; clear hbk
    have d0 : w1.cell? ⟨b, 0, none⟩ = some (.slice A l.length c) := HBK1.out.cell 0
    have HB := Lib.hid hB; clear hB c0 c1 c2 c3 c4 c5 c6 c7 c8
    go_wp2_with fail
    clear d0
    go_loopg [3, 18] l.length (fun k la i wr => ∃ (j : Nat) (last : Int), j ≤ l.length ∧ k = l.length - j ∧ i = .int .i64 j ∧ la = .int .i64 last ∧ upFrom g (-1) l = upFrom g last (l.drop j) ∧ Below w1.heap.size w1 wr)
    case atStart => exact ⟨0, -1, by omega, rfl, rfl, rfl, rfl, Below.refl _ _⟩
    case round =>
      obtain ⟨j, last, hj, rfl, rfl, rfl, hup, hBr⟩ := hrel
      have HU := Lib.hid hup; clear hup
      have HB2 := Lib.hid (below_step HB.out hBr HB.out.size)
      by_cases hlt : j < l.length
      · obtain ⟨ad, rfl, had, x0, x1⟩ := reads_pr ((HR.out.below HB2.out).more HB2.out.size) hlt
        have hbk := HBK1.out.below hBr HBK1.out.lt
        have d2 : wr.cell? ⟨b, 3, none⟩ = some (.int .i64 g.blocks) := hbk.cell 3
        have d3 : wr.cell? ⟨b, 4, none⟩ = some (.int .i64 g.per) := hbk.cell 4
        have hbl := hbk.lt
        have HST := Lib.hid (@upFrom_step g last l j hlt)
        obtain ⟨r, hrr⟩ : ∃ r, l[j] = r := ⟨_, rfl⟩
        rw [hrr] at x0 x1 HST
        clear hrr hbk had
        obtain ⟨rn, rt⟩ := r
        dsimp only at x0 x1 HST
        have HBR := Lib.hid hBr; clear hBr
        have hpw := HPW.out
        by_cases h1 : last < rn
        · have e1 : decide (rn ≤ last) = false := by simp; omega
          by_cases h2 : rn < g.blocks
          · have e2 : decide (g.blocks ≤ rn) = false := by simp; omega
            by_cases h3 : (rt.size : Int) ≤ g.per * 256
            · have e3 : decide (g.per * 256 < (rt.size : Int)) = false := by simp; omega
              have HS : Hid (upFrom g (-1) l = upFrom g rn (l.drop (j + 1))) := by
                show _ = _
                rw [HU.out, HST.out, decide_eq_true ⟨h1, h2, h3⟩]; rfl
              go_wp2_with fail
              go_quiet (fail)
              clear hpw
              go_wp2_with fail
              go_roundg (l.length - (j + 1))
              case rel => exact ⟨j + 1, rn, by omega, rfl, by go_num, rfl, HS.out, below_drewN (HBR.out.alloc HBR.out.size _) _⟩
              case measure => omega
            · have e3 : decide (g.per * 256 < (rt.size : Int)) = true := by simp; omega
              have HS : Hid (upFrom g (-1) l = false) := by
                show _ = _
                rw [HU.out, HST.out, decide_eq_false (by omega)]; rfl
              go_wp2_with fail
              go_quiet (fail)
              clear hpw
              go_wp2_with fail
              go_ret
              exact ⟨by rw [HS.out]; rfl, below_drewN (HB2.out.alloc HB2.out.size _) _⟩
          · have e2 : decide (g.blocks ≤ rn) = true := by simp; omega
            have HS : Hid (upFrom g (-1) l = false) := by
              show _ = _
              rw [HU.out, HST.out, decide_eq_false (by omega)]; rfl
            go_wp2_with fail
            go_quiet (fail)
            clear hpw
            go_wp2_with fail
            go_ret
            exact ⟨by rw [HS.out]; rfl, below_drewN (HB2.out.alloc HB2.out.size _) _⟩
        · have e1 : decide (rn ≤ last) = true := by simp; omega
          have HS : Hid (upFrom g (-1) l = false) := by
            show _ = _
            rw [HU.out, HST.out, decide_eq_false (by omega)]; rfl
          go_wp2_with fail
          go_quiet (fail)
          clear hpw
          go_wp2_with fail
          go_ret
          exact ⟨by rw [HS.out]; rfl, below_drewN (HB2.out.alloc HB2.out.size _) _⟩
      · have HS : Hid (upFrom g (-1) l = true) := by
          show _ = _
          rw [HU.out, List.drop_of_length_le (by omega)]; rfl
        go_wp2_with fail
        go_ret
        exact ⟨by rw [HS.out]; rfl, HB2.out⟩

set_option maxHeartbeats 1000000 in
set_option maxRecDepth 100000 in
theorem BMay_any (g : Geo) (A : Option Addr) (c : Nat) (l : List Pr) (w : World) (hw1 : -9223372036854775808 ≤ g.wait) (hw2 : g.wait ≤ 9223372036854775807) (hl : l.length ≤ 1000000)
    (hr : Reads w w.heap.size 2 A l.length (prCells l)) :
    Calls Try.prog 96 #[g.v, .slice A l.length c] w fun e w' => e = .returned (.bool (mayBk g l)) ∧ Below w.heap.size w w' := by
  have HM := Lib.hid (fun b w r h => bmay_any g b A c l w hw1 hw2 hl r h)
  have HR := Lib.hid hr; clear hr
  generalize mayBk g l = q at *
  have hg : Hid (g = ⟨g.nodes, g.slots, g.blocks, g.per, g.journal, g.log, g.lease, g.wait⟩) := rfl
  dsimp only [Geo.v]
  go_enter Try.func96, Try.ntmps96
  go_wp2_with fail
  refine (HM.out (w.heap.size + 1) _ ?_ ?_).mono ?_
  · exact ((HR.out.alloc (Nat.le_refl _) _).alloc (by simp) _).more (by simp; omega)
  · have h := Blk.new (w.alloc (Obj.cells #[.int .i64 g.nodes, .int .i64 g.slots, .int .i64 g.blocks, .int .i64 g.per, .int .i64 g.journal, .int .i64 g.log, .int .i64 g.lease, .int .i64 g.wait] 23)) 151 (sizedCells g (.slice A l.length c))
    simpa using h
  rintro e w1 ⟨rfl, hB⟩
  go_wp2_with fail
  go_ret
  exact ⟨rfl, below_step (((Below.refl _ _).alloc (Nat.le_refl _) _).alloc (by simp) _) hB (by simp; omega)⟩
end Go.Proofs.Ytllijcnbjbfabaa

namespace Go.Proofs.Ytllijcnbjbfabaa
open Go.RowKit

theorem str_info : (Try.prog.info? 9).map (fun i => (i.zero, i.size, i.bytes)) = some (some (.string ⟨#[]⟩), 1, 16) := by kernel_rfl
theorem ext_end (s : ByteArray) (k : Nat) : s.extract k s.size = mkS (s.data.toList.drop k) := by
  rw [← mkS_self (s.extract k s.size), Lib.extract_data, List.take_of_length_le (by simp)]
theorem ext_front (s : ByteArray) (k : Nat) : s.extract 0 k = mkS (s.data.toList.take k) := by
  rw [← mkS_self (s.extract 0 k), Lib.extract_data]; simp

def PiecesPost (g : Geo) (t : ByteArray) (w : World) (e : Ending) (w' : World) : Prop :=
  ∃ v, e = .returned (.tuple #[v, .int .i64 0]) ∧ w'.ownsRow w.heap.size 9 1 v g.per.toNat (txCells (piecesL g.per t)) ∧ Below w.heap.size w w'

set_option maxHeartbeats 2000000 in
set_option maxRecDepth 100000 in
theorem Pieces_ok (g : Geo) (t : ByteArray) (w : World) (hmay : g.may = true) (hs : (t.size : Int) ≤ g.per * 256) :
    Calls Try.prog 97 #[g.v, .string t] w fun e w' => PiecesPost g t w e w' := by
  have hok := Geo.may_ok hmay
  have hp1 := hok.p1
  have hp2 := hok.p2
  have hwt := hok.e3
  have hwt0 := hok.e2
  have hwt1 := hok.e1
  have HM := Lib.hid (fun w => May_any g w (by omega) (by omega))
  rw [hmay] at HM
  clear hmay hok hwt hwt0 hwt1
  obtain ⟨i0, hi0, hz0, hz1, hz2⟩ := info_parts str_info
  obtain ⟨p, hp⟩ : ∃ p : Nat, p = g.per.toNat := ⟨_, rfl⟩
  have hpp : g.per = (p : Int) := by omega
  have hp8 : p ≤ 8 := by omega
  have hby : i0.bytes * p ≤ 281474976710656 := by rw [hz2]; omega
  have HPP := Lib.hid hp; clear hp
  have HPP2 := Lib.hid hpp; clear hpp
  have hzz : (Value.string ⟨#[]⟩).cells = #[Value.string ⟨#[]⟩] := rfl
  dsimp only [Geo.v]
  go_enter Try.func97, Try.ntmps97
  go_wp2_with fail
  refine (HM.out _).mono ?_
  rintro e w1 ⟨rfl, hB⟩
  have hbk := (Blk.new w 23 #[.int .i64 g.nodes, .int .i64 g.slots, .int .i64 g.blocks, .int .i64 g.per, .int .i64 g.journal, .int .i64 g.log, .int .i64 g.lease, .int .i64 g.wait]).below hB (by simp)
  have c3 : w1.cell? ⟨w.heap.size, 3, none⟩ = some (.int .i64 g.per) := hbk.cell 3
  have hB1 : Below w.heap.size w w1 := below_step ((Below.refl _ _).alloc (Nat.le_refl _) _) hB (by simp)
  have HB1 := Lib.hid hB1; clear hB1 hB hbk
  go_wp2_with (at_make; go_loud (refine wpList_make_len _ rfl (.tmp 19) (.tmp 19) 29 rfl w.heap.size 9 i0 (.string ⟨#[]⟩) Try.underlying29 hi0 hz0 hz1 hzz .i64 .i64 g.per g.per p p rfl rfl HPP2.out HPP2.out (Nat.le_refl _) hby (by unfold maxLen; omega) HB1.out.size ?_); intro w2 hown2 hg2)
  have hB2 := below_none HB1.out hg2 HB1.out.size
  clear hg2 c3
  have HO := Lib.hid hown2; clear hown2
  have HB2 := Lib.hid hB2; clear hB2
  go_wp2_with fail
  go_loopg [1, 23] p (fun k tx i wr => ∃ j : Nat, j ≤ p ∧ k = p - j ∧ i = .int .i64 j ∧ tx = .string (mkS (t.data.toList.drop (256 * j))) ∧ wr.ownsRow w.heap.size 9 1 (.slice (some ⟨w1.heap.size, 0, none⟩) p p) p (txCells (pcs p t j)) ∧ Below w.heap.size w wr)
  case atStart => exact ⟨0, by omega, rfl, rfl, by rw [Nat.mul_zero, List.drop_zero, mkS_self], by rw [pcs_zero]; exact HO.out, HB2.out⟩
  case round =>
    obtain ⟨j, hj, rfl, rfl, rfl, hown, hB⟩ := hrel
    by_cases hlt : j < p
    · have hcell := hown.cellAt j (by omega)
      rw [txCells_get _ _ (by rw [pcs_length (by omega)]; omega)] at hcell
      have hfz := hown.frozenAt j
      have hsz := HB1.out.size
      have HO2 := Lib.hid hown; clear hown HO
      have HB := Lib.hid hB; clear hB
      obtain ⟨R, hR⟩ : ∃ R, R = t.data.toList.drop (256 * j) := ⟨_, rfl⟩
      rw [← hR]
      have hRl : R.length ≤ 10000 := by rw [hR, List.length_drop, bytes_length]; omega
      have hR2 : t.data.toList.drop (256 * (j + 1)) = R.drop 256 := by rw [hR, List.drop_drop]; congr 1
      have hRp : pieceB t j = mkS (R.take 256) := by rw [hR]; rfl
      have HR2 := Lib.hid hR2; clear hR2
      have HRP := Lib.hid hRp; clear hRp hR
      have hms : (mkS R).size = R.length := mkS_size R
      have hx0 : ∀ n, (mkS R).extract 0 n = mkS (R.take n) := fun n => by rw [ext_front, mkS_toList]
      have hx1 : ∀ n, (mkS R).extract n (mkS R).size = mkS (R.drop n) := fun n => by rw [ext_end, mkS_toList]
      have HX0 := Lib.hid hx0; clear hx0
      have HX1 := Lib.hid hx1; clear hx1
      obtain ⟨X, hX⟩ : ∃ X, X = mkS R := ⟨_, rfl⟩
      rw [← hX] at hms HX0 HX1 ⊢
      have HXE := Lib.hid hX; clear hX
      by_cases hsm : R.length ≤ 256
      · have hxs : X.size ≤ 256 := by omega
        have hxs' : (X.size : Int) ≤ 256 := by omega
        have hpc : pieceB t j = X := by rw [HRP.out, List.take_of_length_le hsm, HXE.out]
        have hdr : mkS (t.data.toList.drop (256 * (j + 1))) = ByteArray.empty := by rw [HR2.out, List.drop_of_length_le hsm]; rfl
        have HPC := Lib.hid hpc; clear hpc
        have HDR := Lib.hid hdr; clear hdr hms HX0 HX1
        go_wp2_with fail
        go_region
        go_wp2_with fail
        have hst := HO2.out.stored j (.string X)
        have hown3 : (wr.setCell ⟨w1.heap.size, j, none⟩ (.string X)).ownsRow w.heap.size 9 1 (.slice (some ⟨w1.heap.size, 0, none⟩) p p) p (txCells (pcs p t (j + 1))) := by
          rw [← pcs_set hlt, HPC.out]; exact hst.1
        have hB3 := HB.out.setCell (p := ⟨w1.heap.size, j, none⟩) hsz (.string X)
        clear hst
        go_roundg (p - (j + 1))
        case rel => exact ⟨j + 1, by omega, rfl, by go_num, by rw [HDR.out], hown3.drew, hB3.drew⟩
        case measure => omega
      · have hxs : 256 ≤ X.size := by omega
        have hxs' : ¬ (X.size : Int) ≤ 256 := by omega
        have hxs2 : (256 : Int) ≤ (X.size : Int) := by omega
        have hpc : pieceB t j = X.extract 0 256 := by rw [HRP.out, HX0.out]
        have hdr : mkS (t.data.toList.drop (256 * (j + 1))) = X.extract 256 X.size := by rw [HR2.out, HX1.out]
        have HPC := Lib.hid hpc; clear hpc
        have HDR := Lib.hid hdr; clear hdr HX0 HX1
        have HMS := Lib.hid hms; clear hms
        go_wp2_with fail
        go_region
        go_wp2_with fail
        have hst := HO2.out.stored j (.string (X.extract 0 256))
        have hown3 : (wr.setCell ⟨w1.heap.size, j, none⟩ (.string (X.extract 0 256))).ownsRow w.heap.size 9 1 (.slice (some ⟨w1.heap.size, 0, none⟩) p p) p (txCells (pcs p t (j + 1))) := by
          rw [← pcs_set hlt, HPC.out]; exact hst.1
        have hB3 := HB.out.setCell (p := ⟨w1.heap.size, j, none⟩) hsz (.string (X.extract 0 256))
        clear hst
        go_roundg (p - (j + 1))
        case rel => exact ⟨j + 1, by omega, rfl, by go_num, by rw [HDR.out], hown3.drew, hB3.drew⟩
        case measure => omega
    · have hpe : pcs p t j = piecesL g.per t := by
        obtain rfl : j = p := by omega
        rw [pcs_all, piecesL, ← HPP.out]
      rw [hpe] at hown
      have hpg := HPP.out
      have HPG : Hid (∃ v, Ending.returned (.tuple #[.slice (some ⟨w1.heap.size, 0, none⟩) p p, .int .i64 0]) = .returned (.tuple #[v, .int .i64 0]) ∧ wr.ownsRow w.heap.size 9 1 v g.per.toNat (txCells (piecesL g.per t)) ∧ Below w.heap.size w wr) :=
        ⟨_, rfl, by rw [← hpg]; exact hown, hB⟩
      clear hpe hown hB hpg
      go_wp2_with fail
      go_ret2
      exact HPG.out
end Go.Proofs.Ytllijcnbjbfabaa

namespace Go.Proofs.Ytllijcnbjbfabaa
open Go.RowKit

theorem end_any (f m : Int) (w : World) (h1 : -1000000000 ≤ f) (h2 : f ≤ 1000000000) (h3 : -1000000000 ≤ m) (h4 : m ≤ 1000000000) :
    Calls Try.prog 139 #[.agg #[.int .i64 f, .int .i64 m]] w fun e w' => e = .returned (.int .i64 (f + m)) ∧ Below w.heap.size w w' := by
  go_enter Try.func139, Try.ntmps139
  go_wp2
  go_ret
  exact ⟨rfl, (Below.refl _ _).alloc (Nat.le_refl _) _⟩

def rcell (r : Rg) : List Value := [.int .i64 r.first, .int .i64 r.many, .int .i8 r.kind, .int .i64 r.per]
def rcells (l : List Rg) : List Value := l.flatMap rcell
theorem rcells_length (l : List Rg) : (rcells l).length = l.length * 4 := by
  induction l with
  | nil => rfl
  | cons r l ih => simp only [rcells, rcell, List.flatMap_cons, List.length_append, List.length_cons, List.length_nil] at ih ⊢; omega
theorem rcells_snoc (l : List Rg) (r : Rg) : rcells (l ++ [r]) = rcells l ++ rcell r := by simp [rcells]
theorem rcells_get (l : List Rg) (i : Nat) (h : i < l.length) : (rcells l)[i * 4]? = some (.int .i64 l[i].first) ∧ (rcells l)[i * 4 + 1]? = some (.int .i64 l[i].many) ∧ (rcells l)[i * 4 + 2]? = some (.int .i8 l[i].kind) ∧ (rcells l)[i * 4 + 3]? = some (.int .i64 l[i].per) := by
  induction l generalizing i with
  | nil => simp at h
  | cons p l ih =>
    cases i with
    | zero => simp [rcells, rcell]
    | succ i =>
      have := ih i (by simpa using h)
      simp only [rcells, List.flatMap_cons, rcell] at this ⊢
      rw [show (i + 1) * 4 = i * 4 + 4 by omega, show i * 4 + 4 + 1 = i * 4 + 1 + 4 by omega, show i * 4 + 4 + 2 = i * 4 + 2 + 4 by omega, show i * 4 + 4 + 3 = i * 4 + 3 + 4 by omega]
      simpa using this
theorem rg_info : (Try.prog.info? 162).map (fun i => (i.zero, i.size, i.bytes)) = some (some (.agg #[.int .i64 0, .int .i64 0, .int .i8 0, .int .i64 0]), 4, 32) := by kernel_rfl

theorem rcell_one (r : Rg) : ∀ u ∈ rcell r, u.oneCell' = true := by
  intro u hu
  simp only [rcell, List.mem_cons, List.not_mem_nil, or_false] at hu
  rcases hu with rfl | rfl | rfl | rfl <;> rfl
theorem blk_news {w : World} {g : Nat} {t : TypeId} {cs : Array Value} {xs : List Value} (h : Blk w g t cs) (hx : cs.toList = xs) : ∀ j u, xs[j]? = some u → w.cell? ((⟨g, 0, none⟩ : Addr).add j) = some u := by
  subst hx
  intro j u hu
  have : (⟨g, 0, none⟩ : Addr).add j = ⟨g, j, none⟩ := by unfold Addr.add; split <;> simp_all
  rw [this, h.cell j]
  simpa using hu

set_option maxHeartbeats 1000000 in
set_option maxRecDepth 100000 in
theorem rput_any (k m p a : Int) (ga gl B0 B : Nat) (v : Value) (rs : List Rg) (w : World) (hm0 : 0 ≤ m) (hm1 : m ≤ 1000) (hp0 : 0 ≤ p) (hp1 : p ≤ 1000) (ha0 : 0 ≤ a) (ha1 : a ≤ 100000000) (hrl : rs.length ≤ 100)
    (hA : Blk w ga 3 #[.int .i64 a]) (hL : Blk w gl 179 #[v]) (hown : w.ownsRow B 162 4 v rs.length (rcells rs)) (h1 : B0 ≤ ga) (h2 : B0 ≤ gl) (h3 : B0 ≤ B) (h4 : B ≤ w.heap.size) :
    Calls Try.prog 138 #[.int .i8 k, .int .i64 m, .int .i64 p, .pointer (some ⟨ga, 0, none⟩), .pointer (some ⟨gl, 0, none⟩)] w fun e w' => e = .returned (.tuple #[]) ∧
      ∃ v', Blk w' ga 3 #[.int .i64 (a + m * p)] ∧ Blk w' gl 179 #[v'] ∧ w'.ownsRow B 162 4 v' (rs ++ [Rg.mk a (m * p) k p]).length (rcells (rs ++ [Rg.mk a (m * p) k p])) ∧ Below B0 w w' ∧ w.heap.size ≤ w'.heap.size := by
  obtain ⟨i0, hi0, hz0, hz1, hz2⟩ := info_parts rg_info
  obtain ⟨A1, c1, rfl, -, -, -⟩ := own_reads hown
  have hmp := mul_bd hm0 hm1 hp0 hp1
  obtain ⟨q, hq⟩ : ∃ q, q = m * p := ⟨_, rfl⟩
  have hq' : m * p = q := hq.symm
  rw [← hq] at hmp ⊢
  have HQ := Lib.hid hq; clear hq
  have ca : w.cell? ⟨ga, 0, none⟩ = some (.int .i64 a) := hA.cell 0
  have fa := hA.frozen 0
  have cl : w.cell? ⟨gl, 0, none⟩ = some (.slice A1 rs.length c1) := hL.cell 0
  have fl := hL.frozen 0
  have hal := hA.lt
  have hll := hL.lt
  have hne : ga ≠ gl := hA.ne_ hL (by decide)
  have HA := Lib.hid hA; clear hA
  have HL := Lib.hid hL; clear hL
  have HO := Lib.hid hown; clear hown
  have HNE := Lib.hid hne; clear hne
  go_enter Try.func138, Try.ntmps138
  have hnb : Blk ((w.alloc (Obj.cells #[.int .i64 a, .int .i64 q, .int .i8 k, .int .i64 p] 162)).alloc (Obj.cells #[.int .i64 a, .int .i64 q, .int .i8 k, .int .i64 p] 162)) (w.heap.size + 1) 162 #[.int .i64 a, .int .i64 q, .int .i8 k, .int .i64 p] := by
    have h := Blk.new (w.alloc (Obj.cells #[.int .i64 a, .int .i64 q, .int .i8 k, .int .i64 p] 162)) 162 #[.int .i64 a, .int .i64 q, .int .i8 k, .int .i64 p]
    rwa [show (w.alloc (Obj.cells #[.int .i64 a, .int .i64 q, .int .i8 k, .int .i64 p] 162)).heap.size = w.heap.size + 1 by simp] at h
  have HNB := Lib.hid hnb; clear hnb
  go_wp2_with (first
    | (at_builtin; refine wpList_append_own _ rfl (.tmp 17) (.tmp 19) 179 rfl B 162 i0 _ 4 32 Try.underlying179 hi0 hz0 hz1 hz2 rfl (by decide) (.slice A1 rs.length c1) rs.length (rcells rs) (by rfl) (by exact (HO.out.alloc _).alloc _) ⟨w.heap.size + 1, 0, none⟩ 1 1 (rcell (Rg.mk a q k p)) (by rfl) (by rfl) (by exact blk_news HNB.out rfl) (rcell_one _) (by unfold maxLen; omega) (by omega) (by simp; omega) ?_; intro v1 w1 hown1 hg1 _; (have hne1 : (Value.slice A1 rs.length c1).ownBlock ≠ some gl := own_blk_ne HO.out HL.out (by decide)); (have hne2 : (Value.slice A1 rs.length c1).ownBlock ≠ some ga := own_blk_ne HO.out HA.out (by decide)); (have hA1 := ((HA.out.alloc _).alloc _).grown hg1 (Ne.symm hne2)); (have hL1 := ((HL.out.alloc _).alloc _).grown hg1 (Ne.symm hne1)); (have hR1 := ((Blk.new w 162 #[.int .i64 a, .int .i64 q, .int .i8 k, .int .i64 p]).alloc (Obj.cells #[.int .i64 a, .int .i64 q, .int .i8 k, .int .i64 p] 162))); (have hlt1 : ∀ kk, (Value.slice A1 rs.length c1).ownBlock = some kk → kk < w.heap.size := fun kk e => (HO.out.lt kk e).2); (have hR1' := hR1.grown hg1 (fun e => by have := hlt1 _ e.symm; omega)); obtain ⟨A2, c2, rfl, -, -, -⟩ := own_reads hown1; have ca' := hA1.cell 0; have fa' := hA1.frozen 0; have cl' := hL1.cell 0; have fl' := hL1.frozen 0; obtain ⟨r0, r1, r2, r3⟩ := hR1'.cells4; have HA1 := Lib.hid hA1; have HL1 := Lib.hid hL1; have HO1 := Lib.hid hown1; have HG1 := Lib.hid hg1; clear hA1 hL1 hown1 hg1 hR1 hR1' hlt1 hne1 hne2 ca fa cl fl))
  refine (end_any a q _ (by omega) (by omega) (by omega) (by omega)).mono ?_
  rintro e w3 ⟨rfl, hB3⟩
  clear ca' fa' cl' fl' r0 r1 r2 r3
  have hA2 := HA1.out.far (p := ⟨gl, 0, none⟩) HNE.out (.slice A2 (rs.length + 1) c2)
  have hL2 := HL1.out.set_ 0 (.slice A2 (rs.length + 1) c2)
  have hO2 := ownsRow_setCell_other HO1.out (a := ⟨gl, 0, none⟩) (own_blk_ne HO1.out HL1.out (by decide)) (.slice A2 (rs.length + 1) c2)
  have hA3 := hA2.below hB3 hA2.lt
  have hL3 := hL2.below hB3 hL2.lt
  have hO3 := own_below hO2 hB3
  have hBA : Below B0 w w3 := below_step (((((Below.refl _ _).alloc (by omega) _).alloc (by simp; omega) _).grown HG1.out (by simp; omega) (fun kk e => Nat.le_trans h3 (HO.out.lt kk e).1)).setCell h2 _) hB3 (by have := HL1.out.lt; simp [World.setCell]; omega)
  have ca := hA3.cell 0
  have fa := hA3.frozen 0
  have HA3 := Lib.hid hA3
  have HL3 := Lib.hid hL3
  have HO3 := Lib.hid hO3
  have HBA := Lib.hid hBA
  clear hA2 hL2 hO2 hA3 hL3 hO3 hBA hB3
  go_wp2_with fail
  go_end0
  refine ⟨rfl, .slice A2 (rs.length + 1) c2, HA3.out.set_ 0 _, HL3.out.far (p := ⟨ga, 0, none⟩) (Ne.symm HNE.out) _, ?_, HBA.out.setCell h1 _, by have := HBA.out.size; simpa [World.setCell] using this⟩
  have h5 := ownsRow_setCell_other HO3.out (a := ⟨ga, 0, none⟩) (own_blk_ne HO3.out HA3.out (by decide)) (.int .i64 (a + q))
  rw [rcells_snoc, List.length_append]
  exact h5
end Go.Proofs.Ytllijcnbjbfabaa

namespace Go.Proofs.Ytllijcnbjbfabaa
open Go.RowKit

/-- a result that is one slice in a cell -/
theorem bodyPost_ret_cell {P : Program} {fn : Func} {p : Tmp} {ty e : TypeId} {R : Ending → World → Prop} {a : Act} {w : World} {A : Addr} {s : Option Addr} {n c : Nat} (h : fn.results = #[.cell p ty])
    (hp : a.tmps.getD p undef = .pointer (some A)) (hu : P.underlying ty = some (.slice e)) (hc : w.cell? A = some (.slice s n c)) (hd : a.defers = []) (hR : R (.returned (.slice s n c)) w) : bodyPost P fn R .ret a w := by
  refine bodyPost_ret (v := .slice s n c) ?_ hd hR
  have hp' : a.tmps[p]?.getD undef = .pointer (some A) := by simpa using hp
  simp [results, h, hp', asAddr, loadVar, isAgg, run_underlying hu, go_sem, hc]

def RgsPost (w : World) (g : Geo) (e : Ending) (w' : World) : Prop :=
  ∃ v, e = .returned v ∧ w'.ownsRow (w.heap.size + 1) 162 4 v (if g.may = true then g.rgs else []).length (rcells (if g.may = true then g.rgs else [])) ∧ Below w.heap.size w w'

set_option maxHeartbeats 4000000 in
set_option maxRecDepth 100000 in
theorem regions_any (g : Geo) (w : World) (hw1 : -9223372036854775808 ≤ g.wait) (hw2 : g.wait ≤ 9223372036854775807) :
    Calls Try.prog 129 #[g.v] w fun e w' => RgsPost w g e w' := by
  have hmf : ∀ (fn : Fn) (first cap : Array Value) (w : World), (Instr.makeFunc fn first cap).run Try.prog w = .ok (.func fn first cap) w := fun _ _ _ _ => rfl
  have hmay := fun w => May_any g w hw1 hw2
  by_cases hm : g.may = true
  · have hok := Geo.may_ok hm
    have hsj := hok.sj
    have hbp := hok.bp
    rw [hm] at hmay
    have HP : Hid (∀ e w', RgsPost w g e w' ↔ ∃ v, e = .returned v ∧ w'.ownsRow (w.heap.size + 1) 162 4 v g.rgs.length (rcells g.rgs) ∧ Below w.heap.size w w') := fun e w' => by unfold RgsPost; rw [if_pos hm]
    obtain ⟨k1, k2, k3, k4, k5, k6, k7, k8, k9, k10, k11, k12, k13, k14, k15⟩ := hok
    obtain ⟨n, s, b, p, j, l, le, wt⟩ := g
    dsimp only [Geo.v, Geo.rgs] at *
    have HM := Lib.hid hmay; clear hmay hm
    go_enter Try.func129, Try.ntmps129
    go_wp2_with fail
    refine (HM.out _).mono ?_
    rintro e w1 ⟨rfl, hB1⟩
    have hbG : Blk w1 w.heap.size 23 #[.int .i64 n, .int .i64 s, .int .i64 b, .int .i64 p, .int .i64 j, .int .i64 l, .int .i64 le, .int .i64 wt] := ((Blk.new w _ _).alloc _).below hB1 (by simp; omega)
    have hbL : Blk w1 (w.heap.size + 1) 179 #[.slice none 0 0] := by
      have h := Blk.new (w.alloc (Obj.cells #[.int .i64 n, .int .i64 s, .int .i64 b, .int .i64 p, .int .i64 j, .int .i64 l, .int .i64 le, .int .i64 wt] 23)) 179 #[.slice none 0 0]
      rw [show (w.alloc (Obj.cells #[.int .i64 n, .int .i64 s, .int .i64 b, .int .i64 p, .int .i64 j, .int .i64 l, .int .i64 le, .int .i64 wt] 23)).heap.size = w.heap.size + 1 by simp] at h
      exact h.below hB1 (by simp)
    have hB := below_step (below2 w _ _) hB1 (by simp; omega)
    have hgs := hbL.lt
    obtain ⟨g0, g1, g2, g3, g4, g5, g6, g7⟩ := hbG.cells8
    have HG := Lib.hid hbG; clear hbG
    have HL := Lib.hid hbL; clear hbL
    have HB := Lib.hid hB; clear hB hB1
    go_wp2_with fail
    have HA := Lib.hid (Blk.new w1 3 #[.int .i64 0])
    have HL0 := Lib.hid (HL.out.alloc (Obj.cells #[.int .i64 0] 3)); clear HL
    have HG0 := Lib.hid (HG.out.alloc (Obj.cells #[.int .i64 0] 3)); clear HG
    have HB0 := Lib.hid (HB.out.alloc HB.out.size (Obj.cells #[.int .i64 0] 3)); clear HB
    have HO : Hid ((w1.alloc (Obj.cells #[.int .i64 0] 3)).ownsRow (w.heap.size + 1) 162 4 (.slice none 0 0) 0 []) := World.ownsRow_nil _ _ _ _
    have hs0 : w.heap.size + 1 < (w1.alloc (Obj.cells #[.int .i64 0] 3)).heap.size := by simp; omega
    have HS0 := Lib.hid hs0; clear hs0
    refine (rput_any 1 (1) (1) (0) w1.heap.size (w.heap.size + 1) (w.heap.size + 1) (w.heap.size + 1) _ ([] : List Rg) _ (by omega) (by omega) (by omega) (by omega) (by omega) (by omega) (by simp) HA.out HL0.out HO.out (by omega) (by omega) (by omega) (by have := HS0.out; omega)).mono ?_
    rw [show (0 : Int) + (1) * (1) = 1 from by omega, show ((1 : Int)) * (1) = 1 from by omega]
    rintro e w2 ⟨rfl, v2, hA, hL, hO, hBB, hsz⟩
    clear g0 g1 g2 g3 g4 g5 g6 g7 HA HL0 HO
    have hbG := HG0.out.below hBB (by omega)
    have hB := HB0.out.trans (hBB.mono (by omega))
    have hs1 := Nat.lt_of_lt_of_le HS0.out hsz
    clear HG0 HB0 HS0 hBB hsz
    obtain ⟨g0, g1, g2, g3, g4, g5, g6, g7⟩ := hbG.cells8
    have HA := Lib.hid hA; clear hA
    have HO := Lib.hid hO; clear hO
    have HL0 := Lib.hid hL
    have HG0 := Lib.hid hbG; clear hbG
    have HB0 := Lib.hid hB; clear hB
    have HS0 := Lib.hid hs1; clear hs1
    clear hL
    go_wp2_with fail
    refine (rput_any 2 (n) (1) (1) w1.heap.size (w.heap.size + 1) (w.heap.size + 1) (w.heap.size + 1) _ [Rg.mk (0) (1) 1 (1)] _ (by omega) (by omega) (by omega) (by omega) (by omega) (by omega) (by simp) HA.out HL0.out HO.out (by omega) (by omega) (by omega) (by have := HS0.out; omega)).mono ?_
    rw [show (1 : Int) + (n) * (1) = 1 + n from by omega, show ((n : Int)) * (1) = n from by omega]
    rintro e w3 ⟨rfl, v3, hA, hL, hO, hBB, hsz⟩
    clear g0 g1 g2 g3 g4 g5 g6 g7 HA HL0 HO
    have hbG := HG0.out.below hBB (by omega)
    have hB := HB0.out.trans (hBB.mono (by omega))
    have hs1 := Nat.lt_of_lt_of_le HS0.out hsz
    clear HG0 HB0 HS0 hBB hsz
    obtain ⟨g0, g1, g2, g3, g4, g5, g6, g7⟩ := hbG.cells8
    have HA := Lib.hid hA; clear hA
    have HO := Lib.hid hO; clear hO
    have HL0 := Lib.hid hL
    have HG0 := Lib.hid hbG; clear hbG
    have HB0 := Lib.hid hB; clear hB
    have HS0 := Lib.hid hs1; clear hs1
    clear hL
    go_wp2_with fail
    refine (rput_any 3 (n) (1) (1 + n) w1.heap.size (w.heap.size + 1) (w.heap.size + 1) (w.heap.size + 1) _ [Rg.mk (0) (1) 1 (1), Rg.mk (1) (n) 2 (1)] _ (by omega) (by omega) (by omega) (by omega) (by omega) (by omega) (by simp) HA.out HL0.out HO.out (by omega) (by omega) (by omega) (by have := HS0.out; omega)).mono ?_
    rw [show (1 + n : Int) + (n) * (1) = 1 + n + n from by omega, show ((n : Int)) * (1) = n from by omega]
    rintro e w4 ⟨rfl, v4, hA, hL, hO, hBB, hsz⟩
    clear g0 g1 g2 g3 g4 g5 g6 g7 HA HL0 HO
    have hbG := HG0.out.below hBB (by omega)
    have hB := HB0.out.trans (hBB.mono (by omega))
    have hs1 := Nat.lt_of_lt_of_le HS0.out hsz
    clear HG0 HB0 HS0 hBB hsz
    obtain ⟨g0, g1, g2, g3, g4, g5, g6, g7⟩ := hbG.cells8
    have HA := Lib.hid hA; clear hA
    have HO := Lib.hid hO; clear hO
    have HL0 := Lib.hid hL
    have HG0 := Lib.hid hbG; clear hbG
    have HB0 := Lib.hid hB; clear hB
    have HS0 := Lib.hid hs1; clear hs1
    clear hL
    go_wp2_with fail
    refine (rput_any 4 (l) (1) (1 + n + n) w1.heap.size (w.heap.size + 1) (w.heap.size + 1) (w.heap.size + 1) _ [Rg.mk (0) (1) 1 (1), Rg.mk (1) (n) 2 (1), Rg.mk (1 + n) (n) 3 (1)] _ (by omega) (by omega) (by omega) (by omega) (by omega) (by omega) (by simp) HA.out HL0.out HO.out (by omega) (by omega) (by omega) (by have := HS0.out; omega)).mono ?_
    rw [show (1 + n + n : Int) + (l) * (1) = 1 + n + n + l from by omega, show ((l : Int)) * (1) = l from by omega]
    rintro e w5 ⟨rfl, v5, hA, hL, hO, hBB, hsz⟩
    clear g0 g1 g2 g3 g4 g5 g6 g7 HA HL0 HO
    have hbG := HG0.out.below hBB (by omega)
    have hB := HB0.out.trans (hBB.mono (by omega))
    have hs1 := Nat.lt_of_lt_of_le HS0.out hsz
    clear HG0 HB0 HS0 hBB hsz
    obtain ⟨g0, g1, g2, g3, g4, g5, g6, g7⟩ := hbG.cells8
    have HA := Lib.hid hA; clear hA
    have HO := Lib.hid hO; clear hO
    have HL0 := Lib.hid hL
    have HG0 := Lib.hid hbG; clear hbG
    have HB0 := Lib.hid hB; clear hB
    have HS0 := Lib.hid hs1; clear hs1
    clear hL
    go_wp2_with fail
    refine (rput_any 6 (s) (1 + j) (1 + n + n + l) w1.heap.size (w.heap.size + 1) (w.heap.size + 1) (w.heap.size + 1) _ [Rg.mk (0) (1) 1 (1), Rg.mk (1) (n) 2 (1), Rg.mk (1 + n) (n) 3 (1), Rg.mk (1 + n + n) (l) 4 (1)] _ (by omega) (by omega) (by omega) (by omega) (by omega) (by omega) (by simp) HA.out HL0.out HO.out (by omega) (by omega) (by omega) (by have := HS0.out; omega)).mono ?_
    rw [show (1 + n + n + l : Int) + (s) * (1 + j) = 1 + n + n + l + s * (1 + j) from by rfl, show ((s : Int)) * (1 + j) = s * (1 + j) from by rfl]
    rintro e w6 ⟨rfl, v6, hA, hL, hO, hBB, hsz⟩
    clear g0 g1 g2 g3 g4 g5 g6 g7 HA HL0 HO
    have hbG := HG0.out.below hBB (by omega)
    have hB := HB0.out.trans (hBB.mono (by omega))
    have hs1 := Nat.lt_of_lt_of_le HS0.out hsz
    clear HG0 HB0 HS0 hBB hsz
    obtain ⟨g0, g1, g2, g3, g4, g5, g6, g7⟩ := hbG.cells8
    have HA := Lib.hid hA; clear hA
    have HO := Lib.hid hO; clear hO
    have HL0 := Lib.hid hL
    have HG0 := Lib.hid hbG; clear hbG
    have HB0 := Lib.hid hB; clear hB
    have HS0 := Lib.hid hs1; clear hs1
    clear hL
    go_wp2_with fail
    refine (rput_any 7 (b) (p) (1 + n + n + l + s * (1 + j)) w1.heap.size (w.heap.size + 1) (w.heap.size + 1) (w.heap.size + 1) _ [Rg.mk (0) (1) 1 (1), Rg.mk (1) (n) 2 (1), Rg.mk (1 + n) (n) 3 (1), Rg.mk (1 + n + n) (l) 4 (1), Rg.mk (1 + n + n + l) (s * (1 + j)) 6 (1 + j)] _ (by omega) (by omega) (by omega) (by omega) (by omega) (by omega) (by simp) HA.out HL0.out HO.out (by omega) (by omega) (by omega) (by have := HS0.out; omega)).mono ?_
    rw [show (1 + n + n + l + s * (1 + j) : Int) + (b) * (p) = 1 + n + n + l + s * (1 + j) + b * p from by rfl, show ((b : Int)) * (p) = b * p from by rfl]
    rintro e w7 ⟨rfl, v7, hA, hL, hO, hBB, hsz⟩
    clear g0 g1 g2 g3 g4 g5 g6 g7 HA HL0 HO
    have hbG := HG0.out.below hBB (by omega)
    have hB := HB0.out.trans (hBB.mono (by omega))
    have hs1 := Nat.lt_of_lt_of_le HS0.out hsz
    clear HG0 HB0 HS0 hBB hsz
    obtain ⟨g0, g1, g2, g3, g4, g5, g6, g7⟩ := hbG.cells8
    have HA := Lib.hid hA; clear hA
    have HO := Lib.hid hO; clear hO
    have HL0 := Lib.hid hL
    have HG0 := Lib.hid hbG; clear hbG
    have HB0 := Lib.hid hB; clear hB
    have HS0 := Lib.hid hs1; clear hs1
    obtain ⟨A7, c7, rfl, -, -, -⟩ := own_reads HO.out
    have ql := hL.cell 0
    have qf := hL.frozen 0
    clear hL
    go_wp2_with fail
    have hL8 := HL0.out.set_ 0 (.slice A7 6 c7)
    have hO8 := ownsRow_setCell_other HO.out (a := ⟨w.heap.size + 1, 0, none⟩) (own_blk_ne HO.out HL0.out (by decide)) (.slice A7 6 c7)
    have hB8 := HB0.out.setCell (p := ⟨w.heap.size + 1, 0, none⟩) (by simp) (.slice A7 6 c7)
    have hq8 : (w7.setCell ⟨w.heap.size + 1, 0, none⟩ (.slice A7 6 c7)).cell? ⟨w.heap.size + 1, 0, none⟩ = some (.slice A7 6 c7) := hL8.cell 0
    refine bodyPost_ret_cell rfl rfl Try.underlying179 hq8 rfl ?_
    rw [HP.out]
    exact ⟨_, rfl, hO8, hB8⟩
  · have hmf' : g.may = false := by simpa using hm
    rw [hmf'] at hmay
    have HP : Hid (∀ e w', RgsPost w g e w' ↔ ∃ v, e = .returned v ∧ w'.ownsRow (w.heap.size + 1) 162 4 v 0 [] ∧ Below w.heap.size w w') := fun e w' => by unfold RgsPost; rw [if_neg hm]; rfl
    obtain ⟨n, s, b, p, j, l, le, wt⟩ := g
    dsimp only [Geo.v] at *
    have HM := Lib.hid hmay; clear hmay hm hmf'
    go_enter Try.func129, Try.ntmps129
    go_wp2_with fail
    refine (HM.out _).mono ?_
    rintro e w1 ⟨rfl, hB1⟩
    have hbL : Blk w1 (w.heap.size + 1) 179 #[.slice none 0 0] := by
      have h := Blk.new (w.alloc (Obj.cells #[.int .i64 n, .int .i64 s, .int .i64 b, .int .i64 p, .int .i64 j, .int .i64 l, .int .i64 le, .int .i64 wt] 23)) 179 #[.slice none 0 0]
      rw [show (w.alloc (Obj.cells #[.int .i64 n, .int .i64 s, .int .i64 b, .int .i64 p, .int .i64 j, .int .i64 l, .int .i64 le, .int .i64 wt] 23)).heap.size = w.heap.size + 1 by simp] at h
      exact h.below hB1 (by simp)
    have hB := below_step (below2 w _ _) hB1 (by simp; omega)
    have ql := hbL.cell 0
    have qf := hbL.frozen 0
    have HL := Lib.hid hbL; clear hbL
    have HB := Lib.hid hB; clear hB hB1
    go_wp2_with fail
    have hL8 := HL.out.set_ 0 (.slice none 0 0)
    have hB8 := HB.out.setCell (p := ⟨w.heap.size + 1, 0, none⟩) (by simp) (.slice none 0 0)
    have hq8 : (w1.setCell ⟨w.heap.size + 1, 0, none⟩ (.slice none 0 0)).cell? ⟨w.heap.size + 1, 0, none⟩ = some (.slice none 0 0) := hL8.cell 0
    refine bodyPost_ret_cell rfl rfl Try.underlying179 hq8 rfl ?_
    rw [HP.out]
    exact ⟨_, rfl, World.ownsRow_nil _ _ _ _, hB8⟩
end Go.Proofs.Ytllijcnbjbfabaa

namespace Go.Proofs.Ytllijcnbjbfabaa
open Go.RowKit

/-- a result that is a struct in a block of its own -/
theorem ret_blk {P : Program} {fn : Func} {p : Tmp} {ty : TypeId} {R : Ending → World → Prop} {a : Act} {w : World} {g : Nat} {cs : Array Value} {d : TypeDesc} (h : fn.results = #[.cell p ty])
    (hp : a.tmps.getD p undef = .pointer (some ⟨g, 0, none⟩)) (hb : Blk w g ty cs) (hu : P.underlying ty = some d) (hd : (match d with | .struct _ | .array _ _ => true | _ => false) = true) (hi : (P.info? ty).map (·.size) = some cs.size)
    (hdf : a.defers = []) (hR : R (.returned (.agg cs)) w) : bodyPost P fn R .ret a w :=
  bodyPost_ret (v := .agg cs) (results_cell_row h _ _ g ty cs (0, 0) _ hp hb hu hd hi) hdf hR

def Geo.rgsM (g : Geo) : List Rg := if g.may = true then g.rgs else []
def noRg : Rg := ⟨0, 0, 0, 1⟩
def findR (l : List Rg) (k : Int) : Rg := (l.find? fun r => decide (r.kind = k)).getD noRg
abbrev rgV (r : Rg) : Value := .agg #[.int .i64 r.first, .int .i64 r.many, .int .i8 r.kind, .int .i64 r.per]

theorem find_at {l : List Rg} {k : Int} {j : Nat} (hj : j < l.length) (hk : l[j].kind = k) (hn : ∀ t (h : t < l.length), t < j → l[t].kind ≠ k) : findR l k = l[j] := by
  unfold findR
  have : l.find? (fun r => decide (r.kind = k)) = some l[j] := by
    rw [List.find?_eq_some_iff_getElem]
    refine ⟨by simp [hk], j, hj, rfl, fun t ht => ?_⟩
    have := hn t (by omega) ht
    simp [this]
  rw [this]; rfl
theorem find_none {l : List Rg} {k : Int} (hn : ∀ t (h : t < l.length), l[t].kind ≠ k) : findR l k = noRg := by
  unfold findR
  have : l.find? (fun r => decide (r.kind = k)) = none := by
    rw [List.find?_eq_none]
    intro r hr
    obtain ⟨t, ht, rfl⟩ := List.getElem_of_mem hr
    simp [hn t ht]
  rw [this]; rfl
/-- the four cells of element j of a slice of regions, in the walk's spelling -/
theorem reads_rg {w : World} {B : Nat} {A : Option Addr} {l : List Rg} (h : Reads w B 4 A l.length (rcells l)) {j : Nat} (hj : j < l.length) :
    ∃ ad, A = some ad ∧ ad.block < B ∧ w.cell? (ad.add (j * 4)) = some (.int .i64 l[j].first) ∧ w.cell? ⟨(ad.add (j * 4)).block, (ad.add (j * 4)).off + 1, none⟩ = some (.int .i64 l[j].many) ∧
      w.cell? ⟨(ad.add (j * 4)).block, (ad.add (j * 4)).off + 2, none⟩ = some (.int .i8 l[j].kind) ∧ w.cell? ⟨(ad.add (j * 4)).block, (ad.add (j * 4)).off + 3, none⟩ = some (.int .i64 l[j].per) := by
  obtain ⟨ad, rfl, hb, hc⟩ := h.2 (by omega)
  obtain ⟨h0, h1, h2, h3⟩ := rcells_get l j hj
  have e : ∀ t, 0 < t → ad.add (j * 4 + t) = ⟨(ad.add (j * 4)).block, (ad.add (j * 4)).off + t, none⟩ := fun t ht => by
    rw [← add_of_add]
    show (ad.add (j * 4)).add t = _
    generalize ad.add (j * 4) = z
    unfold Addr.add
    rw [if_neg (by omega)]
  exact ⟨ad, rfl, hb, hc _ _ h0, by rw [← e 1 (by omega)]; exact hc _ _ h1, by rw [← e 2 (by omega)]; exact hc _ _ h2, by rw [← e 3 (by omega)]; exact hc _ _ h3⟩

set_option maxHeartbeats 2000000 in
set_option maxRecDepth 100000 in
theorem find_any (g : Geo) (k : Int) (w : World) (hw1 : -9223372036854775808 ≤ g.wait) (hw2 : g.wait ≤ 9223372036854775807) :
    Calls Try.prog 112 #[g.v, .int .i8 k] w fun e w' => e = .returned (rgV (findR g.rgsM k)) ∧ Below w.heap.size w w' := by
  have hreg := fun w => regions_any g w hw1 hw2
  have hrp : ∀ w e w', RgsPost w g e w' ↔ ∃ v, e = .returned v ∧ w'.ownsRow (w.heap.size + 1) 162 4 v g.rgsM.length (rcells g.rgsM) ∧ Below w.heap.size w w' := fun w e w' => Iff.rfl
  have hlen : g.rgsM.length ≤ 6 := by unfold Geo.rgsM; split <;> simp [Geo.rgs]
  have hfat := fun j => @find_at g.rgsM k j
  have hfno := @find_none g.rgsM k
  obtain ⟨n, s, b, p, jj, l, le, wt⟩ := g
  dsimp only [Geo.v] at *
  generalize Geo.rgsM ⟨n, s, b, p, jj, l, le, wt⟩ = rl at *
  have HREG := Lib.hid hreg; clear hreg
  have HRP := Lib.hid hrp; clear hrp
  have HAT := Lib.hid hfat; clear hfat
  have HNO := Lib.hid hfno; clear hfno
  go_enter Try.func112, Try.ntmps112
  go_wp2_with fail
  refine (HREG.out _).mono ?_
  intro e w1 hpost
  rw [HRP.out] at hpost
  obtain ⟨v, rfl, hown, hB1⟩ := hpost
  have hres : Blk w1 (w.heap.size + 1) 162 #[.int .i64 0, .int .i64 0, .int .i8 0, .int .i64 0] := by
    have h := Blk.new (w.alloc (Obj.cells #[.int .i64 n, .int .i64 s, .int .i64 b, .int .i64 p, .int .i64 jj, .int .i64 l, .int .i64 le, .int .i64 wt] 23)) 162 #[.int .i64 0, .int .i64 0, .int .i8 0, .int .i64 0]
    rw [show (w.alloc (Obj.cells #[.int .i64 n, .int .i64 s, .int .i64 b, .int .i64 p, .int .i64 jj, .int .i64 l, .int .i64 le, .int .i64 wt] 23)).heap.size = w.heap.size + 1 by simp] at h
    exact h.below hB1 (by simp)
  have hB := below_step (below2 w _ _) hB1 (by simp; omega)
  obtain ⟨A, c, rfl, -, -, hr⟩ := own_reads hown
  have HR := Lib.hid hr; clear hr hown hB1
  have HRES := Lib.hid hres; clear hres
  have HB := Lib.hid hB; clear hB
  go_wp2_with fail
  go_loopg [10] rl.length (fun gk i wr => ∃ jx : Nat, jx ≤ rl.length ∧ gk = rl.length - jx ∧ i = .int .i64 jx ∧ (∀ t (h : t < rl.length), t < jx → rl[t].kind ≠ k) ∧ Below w1.heap.size w1 wr)
  case atStart => exact ⟨0, by omega, rfl, rfl, fun t _ h => absurd h (by omega), Below.refl _ _⟩
  case round =>
    obtain ⟨jx, hj, rfl, rfl, hno, hBr⟩ := hrel
    have HN := Lib.hid hno; clear hno
    have hres2 := HRES.out.below hBr HRES.out.lt
    have hB2 := below_step HB.out hBr HB.out.size
    have hltr := hres2.lt
    by_cases hlt : jx < rl.length
    · obtain ⟨ad, rfl, had, x0, x1, x2, x3⟩ := reads_rg (HR.out.below hBr) hlt
      have hat := HAT.out jx hlt
      obtain ⟨r, hrr⟩ : ∃ r, rl[jx] = r := ⟨_, rfl⟩
      rw [hrr] at x0 x1 x2 x3 hat
      have HRR := Lib.hid hrr; clear hrr
      obtain ⟨rf, rm, rk, rp⟩ := r
      dsimp only at x0 x1 x2 x3 hat
      have HHAT := Lib.hid hat; clear hat
      have HB2 := Lib.hid hB2; clear hB2
      have HBR := Lib.hid hBr; clear hBr
      by_cases hk : rk = k
      · have hkb : (rk == k) = true := by simp [hk]
        obtain ⟨q0, q1, q2, q3⟩ := hres2.cells4
        obtain ⟨f0, f1, f2, f3⟩ := hres2.frozen4
        have hfr := HHAT.out hk HN.out
        have HFR := Lib.hid hfr; clear hfr hk
        have HRS := Lib.hid hres2; clear hres2
        go_wp2_with fail
        refine ret_blk (cs := #[.int .i64 rf, .int .i64 rm, .int .i8 rk, .int .i64 rp]) rfl rfl (by exact ((((HRS.out.set_ 0 _).set_ 1 _).set_ 2 _).set_ 3 _).alloc _) Try.underlying162 rfl (by kernel_rfl) rfl ?_
        rw [HFR.out]
        exact ⟨rfl, ((((HB2.out.setCell (by simp) _).setCell (by simp) _).setCell (by simp) _).setCell (by simp) _).alloc (by have := HB2.out.size; simpa [World.setCell] using this) _⟩
      · have hkb : (rk == k) = false := by simp [hk]
        clear hres2
        have HK := Lib.hid hk; clear hk
        go_wp2_with fail
        go_roundg (rl.length - (jx + 1))
        case rel =>
          refine ⟨jx + 1, by omega, rfl, by go_num, fun t h ht => ?_, HBR.out.alloc HBR.out.size _⟩
          rcases Nat.lt_or_ge t jx with h1 | h1
          · exact HN.out t h h1
          · obtain rfl : t = jx := by omega
            rw [HRR.out]; exact HK.out
        case measure => omega
    · obtain ⟨q0, q1, q2, q3⟩ := hres2.cells4
      obtain ⟨f0, f1, f2, f3⟩ := hres2.frozen4
      have hfr := HNO.out fun t h => HN.out t h (by omega)
      have HFR := Lib.hid hfr; clear hfr
      have HRS := Lib.hid hres2; clear hres2
      have HB2 := Lib.hid hB2; clear hB2 hBr
      go_wp2_with fail
      refine ret_blk (cs := #[.int .i64 0, .int .i64 0, .int .i8 0, .int .i64 1]) rfl rfl (by exact (((HRS.out.set_ 0 _).set_ 1 _).set_ 2 _).set_ 3 _) Try.underlying162 rfl (by kernel_rfl) rfl ?_
      rw [HFR.out]
      exact ⟨rfl, (((HB2.out.setCell (by simp) _).setCell (by simp) _).setCell (by simp) _).setCell (by simp) _⟩

set_option maxHeartbeats 400000 in
theorem at_any (f m k : Int) (w : World) (h1 : -1000000000 ≤ f) (h2 : f ≤ 1000000000) (h4 : m ≤ 1000000000) :
    Calls Try.prog 113 #[.agg #[.int .i64 f, .int .i64 m], .int .i64 k] w fun e w' => e = .returned (.int .i64 (if 0 ≤ k ∧ k < m then f + k else -1)) ∧ Below w.heap.size w w' := by
  by_cases hk : 0 ≤ k ∧ k < m
  · rw [if_pos hk]
    obtain ⟨h5, h6⟩ := hk
    go_enter Try.func113, Try.ntmps113
    go_wp2
    go_ret
    exact ⟨rfl, (Below.refl _ _).alloc (Nat.le_refl _) _⟩
  · rw [if_neg hk]
    by_cases h5 : 0 ≤ k
    · have h6 : m ≤ k := by omega
      go_enter Try.func113, Try.ntmps113
      go_wp2
      go_ret
      exact ⟨rfl, (Below.refl _ _).alloc (Nat.le_refl _) _⟩
    · have h6 : k < 0 := by omega
      clear hk
      go_enter Try.func113, Try.ntmps113
      go_wp2
      go_ret
      exact ⟨rfl, (Below.refl _ _).alloc (Nat.le_refl _) _⟩

/-- what a region of a geometry may be -/
theorem find_bd (g : Geo) (k : Int) : 0 ≤ (findR g.rgsM k).first ∧ (findR g.rgsM k).first ≤ 10000 ∧ 0 ≤ (findR g.rgsM k).many ∧ (findR g.rgsM k).many ≤ 10000 ∧ 1 ≤ (findR g.rgsM k).per ∧ (findR g.rgsM k).per ≤ 100 := by
  have key : ∀ r ∈ g.rgsM, 0 ≤ r.first ∧ r.first ≤ 10000 ∧ 0 ≤ r.many ∧ r.many ≤ 10000 ∧ 1 ≤ r.per ∧ r.per ≤ 100 := by
    intro r hr
    unfold Geo.rgsM at hr
    split at hr
    · rename_i hm
      have hok := Geo.may_ok hm
      have := hok.sj
      have := hok.bp
      obtain ⟨k1, k2, k3, k4, k5, k6, k7, k8, k9, k10, k11, k12, k13, k14, k15⟩ := hok
      simp only [Geo.rgs, List.mem_cons, List.not_mem_nil, or_false] at hr
      rcases hr with rfl | rfl | rfl | rfl | rfl | rfl <;> dsimp only <;> omega
    · cases hr
  unfold findR
  cases hf : g.rgsM.find? (fun r => decide (r.kind = k)) with
  | none => simp [noRg]
  | some r => exact key r (List.mem_of_find?_eq_some hf)

set_option maxHeartbeats 1000000 in
set_option maxRecDepth 100000 in
theorem of_any (g : Geo) (kd i k : Int) (w : World) (hw1 : -9223372036854775808 ≤ g.wait) (hw2 : g.wait ≤ 9223372036854775807) :
    Calls Try.prog 100 #[g.v, .int .i8 kd, .int .i64 i, .int .i64 k] w fun e w' => e = .returned (.int .i64 (ofS (findR g.rgsM kd) i k)) ∧ Below w.heap.size w w' := by
  have hfi := fun w => find_any g kd w hw1 hw2
  have hbd := find_bd g kd
  generalize findR g.rgsM kd = r at *
  obtain ⟨rf, rm, rk, rp⟩ := r
  obtain ⟨n, s, b, p, jj, l, le, wt⟩ := g
  dsimp only [Geo.v, rgV] at *
  obtain ⟨b1, b2, b3, b4, b5, b6⟩ := hbd
  have hq0 : 0 ≤ rm / rp := Int.ediv_nonneg (by omega) (by omega)
  have hq1 : rm / rp ≤ rm := Int.ediv_le_self _ (by omega)
  have hof : ofS ⟨rf, rm, rk, rp⟩ i k = if 0 ≤ i ∧ i < rm / rp ∧ 0 ≤ k ∧ k < rp then rf + (i * rp + k) else -1 := rfl
  rw [hof]
  clear hof
  obtain ⟨z, hz⟩ : ∃ z, z = if 0 ≤ i ∧ i < rm / rp ∧ 0 ≤ k ∧ k < rp then rf + (i * rp + k) else -1 := ⟨_, rfl⟩
  rw [← hz]
  have HZ := Lib.hid hz; clear hz
  have HF := Lib.hid hfi; clear hfi
  go_enter Try.func100, Try.ntmps100
  go_wp2_with fail
  refine (HF.out _).mono ?_
  rintro e w1 ⟨rfl, hB1⟩
  have hB := below_step ((Below.refl _ _).alloc (Nat.le_refl _) _) hB1 (by simp)
  have HB := Lib.hid hB; clear hB hB1
  by_cases hc : 0 ≤ i ∧ i < rm / rp ∧ 0 ≤ k ∧ k < rp
  · have hz2 : z = rf + (i * rp + k) := by rw [HZ.out, if_pos hc]
    have HZ2 := Lib.hid hz2; clear hz2 HZ
    obtain ⟨c1, c2, c3, c4⟩ := hc
    have hm0 : 0 ≤ i * rp := Int.mul_nonneg c1 (by omega)
    have hm1 : i * rp + k < rm := by
      have h1 : (i + 1) * rp ≤ rm / rp * rp := Int.mul_le_mul_of_nonneg_right (by omega) (by omega)
      have h2 := Int.ediv_mul_le rm (b := rp) (by omega)
      have h3 : (i + 1) * rp = i * rp + rp := by rw [Int.add_mul]; omega
      omega
    go_wp2_with fail
    refine (at_any rf rm (i * rp + k) _ (by omega) (by omega) (by omega)).mono ?_
    rw [if_pos ⟨by omega, hm1⟩]
    rintro e w2 ⟨rfl, hB2⟩
    go_wp2_with fail
    go_ret
    exact ⟨by rw [HZ2.out]; rfl, below_step (HB.out.alloc HB.out.size _) hB2 (by have := HB.out.size; simp; omega)⟩
  · have hz2 : z = -1 := by rw [HZ.out, if_neg hc]
    have HZ2 := Lib.hid hz2; clear hz2 HZ
    by_cases c1 : 0 ≤ i
    · by_cases c2 : i < rm / rp
      · by_cases c3 : 0 ≤ k
        · have c4 : rp ≤ k := by omega
          clear hc
          go_wp2_with fail
          go_ret
          exact ⟨by rw [HZ2.out]; rfl, HB.out.alloc HB.out.size _⟩
        · have c4 : k < 0 := by omega
          clear hc
          go_wp2_with fail
          go_ret
          exact ⟨by rw [HZ2.out]; rfl, HB.out.alloc HB.out.size _⟩
      · have c4 : rm / rp ≤ i := by omega
        clear hc
        go_wp2_with fail
        go_ret
        exact ⟨by rw [HZ2.out]; rfl, HB.out.alloc HB.out.size _⟩
    · have c4 : i < 0 := by omega
      clear hc
      go_wp2_with fail
      go_ret
      exact ⟨by rw [HZ2.out]; rfl, HB.out.alloc HB.out.size _⟩
end Go.Proofs.Ytllijcnbjbfabaa

namespace Go.Proofs.Ytllijcnbjbfabaa
open Go.RowKit

abbrev GeoAt (g : Geo) (b : Nat) (w0 wx : World) : Prop :=
  wx.cell? ⟨b, 0, none⟩ = some (.int .i64 g.nodes) ∧ wx.cell? ⟨b, 1, none⟩ = some (.int .i64 g.slots) ∧ wx.cell? ⟨b, 2, none⟩ = some (.int .i64 g.blocks) ∧ wx.cell? ⟨b, 3, none⟩ = some (.int .i64 g.per) ∧
  wx.cell? ⟨b, 4, none⟩ = some (.int .i64 g.journal) ∧ wx.cell? ⟨b, 5, none⟩ = some (.int .i64 g.log) ∧ wx.cell? ⟨b, 6, none⟩ = some (.int .i64 g.lease) ∧ wx.cell? ⟨b, 7, none⟩ = some (.int .i64 g.wait) ∧
  b < wx.heap.size ∧ Below w0.heap.size w0 wx
theorem geoAt_keep {g : Geo} {b : Nat} {w0 wx wy : World} (h : GeoAt g b w0 wx) (hB : Below wx.heap.size wx wy) : GeoAt g b w0 wy := by
  obtain ⟨h0, h1, h2, h3, h4, h5, h6, h7, hl, hb⟩ := h
  have hc : ∀ o, wy.cell? ⟨b, o, none⟩ = wx.cell? ⟨b, o, none⟩ := fun o => hB.cell (p := ⟨b, o, none⟩) hl
  exact ⟨by rw [hc, h0], by rw [hc, h1], by rw [hc, h2], by rw [hc, h3], by rw [hc, h4], by rw [hc, h5], by rw [hc, h6], by rw [hc, h7], Nat.lt_of_lt_of_le hl hB.size, below_step hb hB hb.size⟩
theorem geoAt_mk {g : Geo} {b : Nat} {w0 wx : World} (h : Blk wx b 23 #[.int .i64 g.nodes, .int .i64 g.slots, .int .i64 g.blocks, .int .i64 g.per, .int .i64 g.journal, .int .i64 g.log, .int .i64 g.lease, .int .i64 g.wait]) (hb : Below w0.heap.size w0 wx) : GeoAt g b w0 wx :=
  ⟨h.cell 0, h.cell 1, h.cell 2, h.cell 3, h.cell 4, h.cell 5, h.cell 6, h.cell 7, h.lt, hb⟩
theorem geoAt_new (g : Geo) (w : World) : GeoAt g w.heap.size w (w.alloc (.cells #[.int .i64 g.nodes, .int .i64 g.slots, .int .i64 g.blocks, .int .i64 g.per, .int .i64 g.journal, .int .i64 g.log, .int .i64 g.lease, .int .i64 g.wait] 23)) :=
  geoAt_mk (Blk.new w _ _) ((Below.refl _ _).alloc (Nat.le_refl _) _)
theorem geoAt_drew {g : Geo} {b : Nat} {w0 wx : World} (h : GeoAt g b w0 wx) : GeoAt g b w0 wx.drew := by
  obtain ⟨h0, h1, h2, h3, h4, h5, h6, h7, hl, hb⟩ := h
  exact ⟨h0, h1, h2, h3, h4, h5, h6, h7, hl, hb.drew⟩
theorem geoAt_alloc {g : Geo} {b : Nat} {w0 wx : World} (h : GeoAt g b w0 wx) (o : Obj) : GeoAt g b w0 (wx.alloc o) := geoAt_keep h ((Below.refl _ _).alloc (Nat.le_refl _) _)
end Go.Proofs.Ytllijcnbjbfabaa

namespace Go.Proofs.Ytllijcnbjbfabaa
open Go.RowKit

theorem findM {g : Geo} (hm : g.may = true) (k : Int) : findR g.rgsM k = findR g.rgs k := by unfold Geo.rgsM; rw [if_pos hm]
theorem findN {g : Geo} (hm : ¬ g.may = true) (k : Int) : findR g.rgsM k = noRg := by unfold Geo.rgsM; rw [if_neg hm]; rfl
theorem of_no (i k : Int) : ofS noRg i k = -1 := by
  unfold ofS noRg
  dsimp only
  rw [if_neg (by simp only [Int.zero_ediv]; omega)]
theorem ofS_if {r : Rg} {i k : Int} {c : Prop} [Decidable c] {z : Int} (hc : (0 ≤ i ∧ i < r.many / r.per ∧ 0 ≤ k ∧ k < r.per) ↔ c) (hz : c → r.first + (i * r.per + k) = z) : ofS r i k = if c then z else -1 := by
  unfold ofS
  by_cases h : c
  · rw [if_pos h, if_pos (hc.2 h), hz h]
  · rw [if_neg h, if_neg (fun x => h (hc.1 x))]
theorem of_lease (g : Geo) (i : Int) : ofS (findR g.rgsM 2) i 0 = g.leaseS i := by
  unfold Geo.leaseS
  by_cases hm : g.may = true
  · rw [findM hm, show findR g.rgs 2 = ⟨1, g.nodes, 2, 1⟩ from rfl]
    exact ofS_if (by simp only [Int.ediv_one, hm, true_and]; omega) (fun _ => by dsimp only; omega)
  · rw [findN hm, of_no, if_neg (fun x => hm x.1)]
theorem of_paxos (g : Geo) (i : Int) : ofS (findR g.rgsM 3) i 0 = g.paxosS i := by
  unfold Geo.paxosS
  by_cases hm : g.may = true
  · rw [findM hm, show findR g.rgs 3 = ⟨1 + g.nodes, g.nodes, 3, 1⟩ from rfl]
    exact ofS_if (by simp only [Int.ediv_one, hm, true_and]; omega) (fun _ => by dsimp only; omega)
  · rw [findN hm, of_no, if_neg (fun x => hm x.1)]
theorem of_log (g : Geo) (i : Int) : ofS (findR g.rgsM 4) i 0 = g.logS i := by
  unfold Geo.logS
  by_cases hm : g.may = true
  · rw [findM hm, show findR g.rgs 4 = ⟨1 + g.nodes + g.nodes, g.log, 4, 1⟩ from rfl]
    exact ofS_if (by simp only [Int.ediv_one, hm, true_and]; omega) (fun _ => by dsimp only; omega)
  · rw [findN hm, of_no, if_neg (fun x => hm x.1)]
theorem of_head (g : Geo) (i : Int) : ofS (findR g.rgsM 6) i 0 = g.headS i := by
  unfold Geo.headS
  by_cases hm : g.may = true
  · have hk := Geo.may_ok hm
    have h1 := hk.j1; have h2 := hk.p1
    rw [findM hm, show findR g.rgs 6 = ⟨1 + g.nodes + g.nodes + g.log, g.slots * (1 + g.journal), 6, 1 + g.journal⟩ from rfl]
    exact ofS_if (by simp only [hm, true_and]; rw [Int.mul_ediv_cancel _ (by omega)]; omega) (fun _ => by dsimp only; omega)
  · rw [findN hm, of_no, if_neg (fun x => hm x.1)]
theorem of_journal {g : Geo} (hm : g.may = true) (i l : Int) (hi : 0 ≤ i ∧ i < g.slots) (hl : 0 ≤ l) : ofS (findR g.rgsM 6) i (1 + l % g.journal) = g.journalS i l := by
  unfold Geo.journalS
  have hk := Geo.may_ok hm
  have h1 := hk.j1; have h2 := hk.p1
  have h3 := Int.emod_nonneg l (b := g.journal) (by omega)
  have h4 := Int.emod_lt_of_pos l (b := g.journal) (by omega)
  rw [findM hm, show findR g.rgs 6 = ⟨1 + g.nodes + g.nodes + g.log, g.slots * (1 + g.journal), 6, 1 + g.journal⟩ from rfl]
  exact ofS_if (by simp only [hm, true_and]; rw [Int.mul_ediv_cancel _ (by omega)]; omega) (fun _ => by dsimp only; omega)
theorem of_data (g : Geo) (i k : Int) : ofS (findR g.rgsM 7) i k = g.dataS i k := by
  unfold Geo.dataS
  by_cases hm : g.may = true
  · have hk := Geo.may_ok hm
    have h2 := hk.p1
    rw [findM hm, show findR g.rgs 7 = ⟨1 + g.nodes + g.nodes + g.log + g.slots * (1 + g.journal), g.blocks * g.per, 7, g.per⟩ from rfl]
    exact ofS_if (by simp only [hm, true_and]; rw [Int.mul_ediv_cancel _ (by omega)]) (fun _ => by dsimp only; omega)
  · rw [findN hm, of_no, if_neg (fun x => hm x.1)]
theorem of_total (g : Geo) : (findR g.rgsM 7).first + (findR g.rgsM 7).many = g.totalS := by
  unfold Geo.totalS
  by_cases hm : g.may = true
  · rw [findM hm, if_pos hm, show findR g.rgs 7 = ⟨1 + g.nodes + g.nodes + g.log + g.slots * (1 + g.journal), g.blocks * g.per, 7, g.per⟩ from rfl]
    unfold Geo.total
    dsimp only
    omega
  · rw [findN hm, if_neg hm]; rfl


set_option maxHeartbeats 400000 in
theorem Head_any (g : Geo) (i : Int) (w : World) (hw1 : -9223372036854775808 ≤ g.wait) (hw2 : g.wait ≤ 9223372036854775807) :
    Calls Try.prog 76 #[g.v, .int .i64 i] w fun e w' => e = .returned (.int .i64 (g.headS i)) ∧ Below w.heap.size w w' := by
  have h := fun w => of_any g 6 i 0 w hw1 hw2
  rw [of_head] at h
  generalize g.headS i = z at *
  dsimp only [Geo.v] at *
  have H := Lib.hid h; clear h
  go_enter Try.func76, Try.ntmps76
  go_wp2_with fail
  refine (H.out _).mono ?_
  rintro e w1 ⟨rfl, hB⟩
  go_wp2_with fail
  go_ret
  exact ⟨rfl, below_step ((Below.refl _ _).alloc (Nat.le_refl _) _) hB (by simp)⟩

set_option maxHeartbeats 400000 in
theorem Data_any (g : Geo) (i k : Int) (w : World) (hw1 : -9223372036854775808 ≤ g.wait) (hw2 : g.wait ≤ 9223372036854775807) :
    Calls Try.prog 98 #[g.v, .int .i64 i, .int .i64 k] w fun e w' => e = .returned (.int .i64 (g.dataS i k)) ∧ Below w.heap.size w w' := by
  have h := fun w => of_any g 7 i k w hw1 hw2
  rw [of_data] at h
  generalize g.dataS i k = z at *
  dsimp only [Geo.v] at *
  have H := Lib.hid h; clear h
  go_enter Try.func98, Try.ntmps98
  go_wp2_with fail
  refine (H.out _).mono ?_
  rintro e w1 ⟨rfl, hB⟩
  go_wp2_with fail
  go_ret
  exact ⟨rfl, below_step ((Below.refl _ _).alloc (Nat.le_refl _) _) hB (by simp)⟩

def Geo.restS (g : Geo) : Int := if g.may = true then 4 * g.slots else 0
theorem head_may {g : Geo} {i : Int} (h : 0 ≤ g.headS i) : g.may = true ∧ 0 ≤ i ∧ i < g.slots := by
  unfold Geo.headS at h
  split at h
  · assumption
  · omega
theorem head_neg {g : Geo} {i : Int} (h : g.headS i < 0) (l : Int) : g.journalS i l = -1 := by
  unfold Geo.journalS
  rw [if_neg]
  rintro ⟨h1, h2, h3, -⟩
  unfold Geo.headS at h
  rw [if_pos ⟨h1, h2, h3⟩] at h
  have hk := Geo.may_ok h1
  have := hk.n1; have := hk.l1; have := hk.s1
  have : 0 ≤ i * (1 + g.journal) := Int.mul_nonneg h2 (by have := hk.j1; have := hk.p1; omega)
  omega
theorem journal_neg {g : Geo} {l : Int} (h : l < 0) (i : Int) : g.journalS i l = -1 := by
  unfold Geo.journalS
  rw [if_neg]
  rintro ⟨-, -, -, h4⟩
  omega
end Go.Proofs.Ytllijcnbjbfabaa

namespace Go.Proofs.Ytllijcnbjbfabaa
open Go.RowKit

theorem own_own_ne {w : World} {b b' : Nat} {e e' : TypeId} {s s' n n' : Nat} {v v' : Value} {xs xs' : List Value} (h : w.ownsRow b e s v n xs) (h' : w.ownsRow b' e' s' v' n' xs') (hne : e ≠ e') : v.ownBlock = none ∨ v.ownBlock ≠ v'.ownBlock := by
  rcases h.2 with ⟨rfl, _⟩ | ⟨g, cap, cur, rfl, _, hg, _⟩
  · exact .inl rfl
  · refine .inr fun he => ?_
    exact own_blk_ne (t := e) h' hg (Ne.symm hne) he.symm
abbrev geoCells (g : Geo) : Array Value := #[.int .i64 g.nodes, .int .i64 g.slots, .int .i64 g.blocks, .int .i64 g.per, .int .i64 g.journal, .int .i64 g.log, .int .i64 g.lease, .int .i64 g.wait]
/-- where blocks stand, or that they may not be -/
def cellsR (g : Geo) (l : List Pr) : List Pr × Int := if mayBk g l = true then (cellsL g l, 0) else ([], 2)
def CellsPost (w : World) (r : List Pr × Int) (e : Ending) (w' : World) : Prop :=
  ∃ v, e = .returned (.tuple #[v, .int .i64 r.2]) ∧ w'.ownsRow w.heap.size 52 2 v r.1.length (prCells r.1) ∧ Below w.heap.size w w'
theorem cell_info : (Try.prog.info? 52).map (fun i => (i.zero, i.size, i.bytes)) = some (some (.agg #[.int .i64 0, .string ⟨#[]⟩]), 2, 24) := by kernel_rfl
theorem cellsL_take (g : Geo) (l : List Pr) (j : Nat) (h : j < l.length) : cellsL g (l.take (j + 1)) = cellsL g (l.take j) ++ cellsOf g l[j] := by
  rw [List.take_succ_eq_append_getElem h, cellsL_snoc]
theorem cellsOf_take (g : Geo) (x : Pr) (k : Nat) (h : k < g.per.toNat) : (cellsOf g x).take (k + 1) = (cellsOf g x).take k ++ [⟨g.dataS x.n (k : Int), pieceB x.t k⟩] := by
  rw [List.take_succ_eq_append_getElem (by rw [cellsOf_length]; exact h)]
  congr 1
  simp [cellsOf]
theorem piecesL_get (per : Int) (t : ByteArray) (k : Nat) (h : k < per.toNat) : (txCells (piecesL per t))[k]? = some (.string (pieceB t k)) := by
  simp [txCells, piecesL, h]

set_option maxHeartbeats 4000000 in
set_option maxRecDepth 100000 in
theorem Cells_any (g : Geo) (A : Option Addr) (c : Nat) (l : List Pr) (w : World) (hw1 : -9223372036854775808 ≤ g.wait) (hw2 : g.wait ≤ 9223372036854775807) (hl : l.length ≤ 100000)
    (hr : Reads w w.heap.size 2 A l.length (prCells l)) :
    Calls Try.prog 70 #[g.v, .slice A l.length c] w fun e w' => CellsPost w (cellsR g l) e w' := by
  have HM := Lib.hid (fun w r => BMay_any g A c l w hw1 hw2 (by omega) r)
  have HR := Lib.hid hr; clear hr
  obtain ⟨i0, hi0, hz0, hz1, hz2⟩ := info_parts cell_info
  cases hmay : mayBk g l with
  | false =>
    have hres : cellsR g l = ([], 2) := by unfold cellsR; rw [hmay]; rfl
    rw [hres]
    rw [hmay] at HM
    clear hres hmay
    dsimp only [Geo.v]
    go_enter Try.func70, Try.ntmps70
    go_wp2_with fail
    refine (HM.out _ ((HR.out.alloc (Nat.le_refl _) _).more (by simp))).mono ?_
    rintro e w1 ⟨rfl, hB⟩
    have HB := Lib.hid (below_step ((Below.refl w.heap.size w).alloc (Nat.le_refl _) _) hB (by simp)); clear hB
    have HP : Hid (∃ v, Ending.returned (.tuple #[.slice none 0 0, .int .i64 2]) = .returned (.tuple #[v, .int .i64 2]) ∧ w1.ownsRow w.heap.size 52 2 v 0 (prCells []) ∧ Below w.heap.size w w1) := ⟨_, rfl, World.ownsRow_nil _ _ _ _, HB.out⟩
    go_wp2_with fail
    go_ret2
    exact HP.out
  | true =>
    have hres : cellsR g l = (cellsL g l, 0) := by unfold cellsR; rw [hmay]; rfl
    rw [hres]
    rw [hmay] at HM
    obtain ⟨hgm, hall⟩ := mayBk_all hmay
    have hok := Geo.may_ok hgm
    have hp1 := hok.p1
    have hp2 := hok.p2
    have HALL := Lib.hid hall; clear hall
    have HPC := Lib.hid (fun t w h => Pieces_ok g t w hgm h)
    have HDT := Lib.hid (fun i k w => Data_any g i k w hw1 hw2)
    obtain ⟨p, hp⟩ : ∃ p : Nat, p = g.per.toNat := ⟨_, rfl⟩
    have hp8 : p ≤ 8 := by omega
    have hp0 : 1 ≤ p := by omega
    have HPP := Lib.hid hp
    clear hres hmay hgm hok hp1 hp2 hp
    dsimp only [Geo.v] at *
    go_enter Try.func70, Try.ntmps70
    go_wp2_with fail
    refine (HM.out _ ((HR.out.alloc (Nat.le_refl _) _).more (by simp))).mono ?_
    rintro e w1 ⟨rfl, hB⟩
    have HG1 := Lib.hid ((Blk.new w 23 (geoCells g)).below hB (by simp))
    have HB1 := Lib.hid (below_step ((Below.refl w.heap.size w).alloc (Nat.le_refl _) _) hB (by simp)); clear hB
    go_wp2_with fail
    go_loopg [4, 18] l.length (fun k out i wr => ∃ j : Nat, j ≤ l.length ∧ k = l.length - j ∧ i = .int .i64 j ∧ wr.ownsRow w.heap.size 52 2 out (cellsL g (l.take j)).length (prCells (cellsL g (l.take j))) ∧ Blk wr w.heap.size 23 (geoCells g) ∧ Below w.heap.size w wr)
    case atStart => exact ⟨0, by omega, rfl, rfl, World.ownsRow_nil _ _ _ _, HG1.out, HB1.out⟩
    case round =>
      obtain ⟨j, hj, rfl, rfl, hown, hG, hB⟩ := hrel
      by_cases hlt : j < l.length
      · obtain ⟨ad, rfl, had, x0, x1⟩ := reads_pr ((HR.out.below hB).more hB.size) hlt
        have hxs := (HALL.out l[j] (List.getElem_mem hlt)).2.2
        have HTK := Lib.hid (cellsL_take g l j hlt)
        have hcl : (cellsL g (l.take j)).length ≤ 800000 := by
          rw [cellsL_length, ← HPP.out]
          have h1 : (l.take j).length ≤ 100000 := by simp; omega
          calc (l.take j).length * p ≤ 100000 * 8 := Nat.mul_le_mul h1 hp8
            _ = 800000 := rfl
        obtain ⟨x, hx⟩ : ∃ x, l[j] = x := ⟨_, rfl⟩
        rw [hx] at x0 x1 hxs HTK
        clear hx had
        obtain ⟨xn, xt⟩ := x
        dsimp only at x0 x1 hxs
        obtain ⟨q0, q1, q2, q3, q4, q5, q6, q7⟩ := hG.cells8
        have HG := Lib.hid hG; clear hG
        have hBl := hB.size
        have hGl := HG.out.lt
        have HB := Lib.hid hB; clear hB
        have HO := Lib.hid hown; clear hown
        have HCO := Lib.hid (fun k h => cellsOf_take g ⟨xn, xt⟩ k h)
        have HCOL := Lib.hid (cellsOf_length g ⟨xn, xt⟩)
        have HPG := Lib.hid (fun k h => piecesL_get g.per xt k h)
        generalize cellsL g (l.take j) = CL at *
        generalize cellsOf g ⟨xn, xt⟩ = CX at *
        dsimp only at HCO
        obtain ⟨wo, rfl⟩ : ∃ wo : World, wo = wr := ⟨_, rfl⟩
        go_wp2_with fail
        refine (HPC.out xt _ hxs).mono ?_
        rintro e w2 ⟨vp, rfl, hownp, hB2⟩
        rw [← HPP.out] at hownp
        obtain ⟨gp, cp, rfl, hgp, hgpl⟩ := hownp.form (by omega)
        have HX2 := Lib.hid ((Blk.new wo 73 #[.int .i64 xn, .string xt]).below hB2 (by simp))
        have HG2 := Lib.hid ((HG.out.alloc (Obj.cells #[.int .i64 xn, .string xt] 73)).below hB2 (by simp; omega))
        have HO2 := Lib.hid (own_below (HO.out.alloc (Obj.cells #[.int .i64 xn, .string xt] 73)) hB2)
        have HB2 := Lib.hid (below_step (HB.out.alloc HB.out.size _) hB2 (by simp; omega))
        have HOP := Lib.hid hownp
        clear hownp hB2 HO HB HG q0 q1 q2 q3 q4 q5 q6 q7 x0 x1
        go_wp2_with fail
        go_loopg [4, 31] p (fun k out i wr => ∃ (kx : Nat) (LL : List Pr), kx ≤ p ∧ k = p - kx ∧ i = .int .i64 kx ∧ LL = CL ++ CX.take kx ∧ wr.ownsRow w.heap.size 52 2 out LL.length (prCells LL) ∧ Blk wr w.heap.size 23 (geoCells g) ∧ Blk wr wo.heap.size 73 #[.int .i64 xn, .string xt] ∧ wr.ownsRow (wo.heap.size + 1) 9 1 (.slice (some ⟨gp, 0, none⟩) p cp) p (txCells (piecesL g.per xt)) ∧ Below w.heap.size w wr)
        case atStart => exact ⟨0, CL, by omega, rfl, rfl, by simp, HO2.out, HG2.out, HX2.out, by have := HOP.out; simpa using this, HB2.out⟩
        case round =>
          clear HO2 HG2 HX2 HOP HB2
          obtain ⟨kx, LL, hkx, rfl, rfl, hLL, hown, hG, hX, hOP, hB⟩ := hrel
          have hLLl : LL.length ≤ 800100 := by rw [hLL, List.length_append, List.length_take, HCOL.out]; omega
          have HLL := Lib.hid hLL; clear hLL
          by_cases hk : kx < p
          · have hcell := hOP.cellAt kx (by omega)
            rw [HPG.out kx (by rw [← HPP.out]; exact hk)] at hcell
            obtain ⟨q0, q1, q2, q3, q4, q5, q6, q7⟩ := hG.cells8
            have xc0 : wr.cell? ⟨wo.heap.size, 0, none⟩ = some (.int .i64 xn) := hX.cell 0
            have HSN := Lib.hid (HCO.out kx (by rw [← HPP.out]; exact hk))
            have HDK := Lib.hid (fun w => HDT.out xn (kx : Int) w)
            generalize pieceB xt kx = PX at *
            generalize g.dataS xn (kx : Int) = DX at *
            obtain ⟨A1, c1, rfl, -, -, -⟩ := own_reads hown
            have HO := Lib.hid hown; clear hown
            have HG := Lib.hid hG; clear hG
            have HX := Lib.hid hX; clear hX
            have HOP := Lib.hid hOP; clear hOP
            have HB := Lib.hid hB; clear hB
            go_wp2_with fail
            refine (HDK.out _).mono ?_
            rintro e w3 ⟨rfl, hB3⟩
            clear q0 q1 q2 q3 q4 q5 q6 q7 xc0 hcell
            have HO3 := Lib.hid (own_below HO.out hB3)
            have HG3 := Lib.hid (HG.out.below hB3 HG.out.lt)
            have HX3 := Lib.hid (HX.out.below hB3 HX.out.lt)
            have HOP3 := Lib.hid (own_below HOP.out hB3)
            have HB3 := Lib.hid (below_step HB.out hB3 HB.out.size)
            have hsz3 := HB3.out.size
            clear hB3 HO HG HX HOP HB
            go_wp2_with (at_builtin; go_loud (refine wpList_append_own _ rfl (.tmp 36) (.tmp 44) 48 rfl w.heap.size 52 i0 _ 2 24 Try.underlying48 hi0 hz0 hz1 hz2 rfl (by decide) (.slice A1 LL.length c1) LL.length (prCells LL) (by rfl) (HO3.out.alloc _) ⟨w3.heap.size, 0, none⟩ 1 1 (prCell ⟨DX, PX⟩) (by rfl) (by rfl) (blk_news (Blk.new w3 52 #[.int .i64 DX, .string PX]) rfl) (prCell_one _) (by unfold maxLen; omega) (by omega) (by simp; omega) ?_); intro v1 w4 hown4 hg4 _)
            have hG4 := (HG3.out.alloc (Obj.cells #[.int .i64 DX, .string PX] 52)).grown hg4 (Ne.symm (own_blk_ne HO3.out HG3.out (by decide)))
            have hX4 := (HX3.out.alloc (Obj.cells #[.int .i64 DX, .string PX] 52)).grown hg4 (Ne.symm (own_blk_ne HO3.out HX3.out (by decide)))
            have hOP4 := (HOP3.out.alloc (Obj.cells #[.int .i64 DX, .string PX] 52)).kept hg4 (own_own_ne HOP3.out HO3.out (by decide))
            have hB4 := below_own (HB3.out.alloc HB3.out.size (Obj.cells #[.int .i64 DX, .string PX] 52)) (HO3.out.alloc _) hg4 (by simp; omega)
            have hO4 : w4.ownsRow w.heap.size 52 2 v1 (LL ++ [Pr.mk DX PX]).length (prCells (LL ++ [Pr.mk DX PX])) := by rw [prCells_snoc, List.length_append]; exact hown4
            have HREL : Hid (∃ (kx' : Nat) (LL' : List Pr), kx' ≤ p ∧ p - (kx + 1) = p - kx' ∧ Value.int .i64 ((kx : Int) + 1) = .int .i64 kx' ∧ LL' = CL ++ CX.take kx' ∧ w4.ownsRow w.heap.size 52 2 v1 LL'.length (prCells LL') ∧ Blk w4 w.heap.size 23 (geoCells g) ∧ Blk w4 wo.heap.size 73 #[.int .i64 xn, .string xt] ∧ w4.ownsRow (wo.heap.size + 1) 9 1 (.slice (some ⟨gp, 0, none⟩) p cp) p (txCells (piecesL g.per xt)) ∧ Below w.heap.size w w4) :=
              ⟨kx + 1, LL ++ [Pr.mk DX PX], by omega, rfl, by go_num, by rw [HLL.out, HSN.out, List.append_assoc], hO4, hG4, hX4, hOP4, hB4⟩
            clear hown4 hg4 hG4 hX4 hOP4 hB4 hO4 HO3 HG3 HX3 HOP3 HB3
            go_wp2_with fail
            go_roundg (p - (kx + 1))
            case rel => exact HREL.out
            case measure => omega
          · have hfin : LL = cellsL g (l.take (j + 1)) := by
              rw [HTK.out, HLL.out, List.take_of_length_le (by rw [HCOL.out, ← HPP.out]; omega)]
            rw [hfin] at hown
            have HREL : Hid (∃ j' : Nat, j' ≤ l.length ∧ l.length - (j + 1) = l.length - j' ∧ Value.int .i64 ((j : Int) + 1) = .int .i64 j' ∧ wr.ownsRow w.heap.size 52 2 u4 (cellsL g (l.take j')).length (prCells (cellsL g (l.take j'))) ∧ Blk wr w.heap.size 23 (geoCells g) ∧ Below w.heap.size w wr) :=
              ⟨j + 1, by omega, rfl, by go_num, hown, hG, hB⟩
            clear hfin hown hG hX hOP hB
            go_wp2_with fail
            go_roundg (l.length - (j + 1))
            case rel => exact HREL.out
            case measure => omega
      · have htl : l.take j = l := List.take_of_length_le (by omega)
        rw [htl] at hown
        have HP : Hid (CellsPost w (cellsL g l, 0) (.returned (.tuple #[u4, .int .i64 0])) wr) := ⟨_, rfl, hown, hB⟩
        clear htl hown hG hB
        go_wp2_with fail
        go_ret2
        exact HP.out
end Go.Proofs.Ytllijcnbjbfabaa

namespace Go.Proofs.Ytllijcnbjbfabaa
open Go.RowKit

abbrev crs (v : Value) (s : Sett) (sec : Int) (hd : ByteArray) : Array Value := #[v, .int .i64 s.1, .int .i64 s.2.1, .int .i8 s.2.2, .int .i64 sec, .string hd]
theorem Blk.cells6 {w : World} {g : Nat} {t : TypeId} {a0 a1 a2 a3 a4 a5 : Value} (h : Blk w g t #[a0, a1, a2, a3, a4, a5]) : w.cell? ⟨g, 0, none⟩ = some a0 ∧ w.cell? ⟨g, 1, none⟩ = some a1 ∧ w.cell? ⟨g, 2, none⟩ = some a2 ∧ w.cell? ⟨g, 3, none⟩ = some a3 ∧ w.cell? ⟨g, 4, none⟩ = some a4 ∧ w.cell? ⟨g, 5, none⟩ = some a5 :=
  ⟨h.cell 0, h.cell 1, h.cell 2, h.cell 3, h.cell 4, h.cell 5⟩
theorem Blk.frozen6 {w : World} {g : Nat} {t : TypeId} {cs : Array Value} (h : Blk w g t cs) : w.frozen? ⟨g, 0, none⟩ = false ∧ w.frozen? ⟨g, 1, none⟩ = false ∧ w.frozen? ⟨g, 2, none⟩ = false ∧ w.frozen? ⟨g, 3, none⟩ = false ∧ w.frozen? ⟨g, 4, none⟩ = false ∧ w.frozen? ⟨g, 5, none⟩ = false :=
  ⟨h.frozen 0, h.frozen 1, h.frozen 2, h.frozen 3, h.frozen 4, h.frozen 5⟩

theorem end6_any (b : Nat) (v : Value) (s : Sett) (sec : Int) (hd : ByteArray) (w : World) (hb : Blk w b 93 (crs v s sec hd)) :
    Calls Try.prog 45 #[.pointer (some ⟨b, 0, none⟩)] w fun e w' => e = .returned (.bool (decide (2 < s.2.2))) ∧ w = w' := by
  obtain ⟨c0, c1, c2, c3, c4, c5⟩ := hb.cells6
  clear hb
  go_enter Try.func45, Try.ntmps45
  go_wp2
  go_ret
  exact ⟨rfl, rfl⟩

def NextPost (b : Nat) (v : Value) (s : Sett) (sec : Int) (hd : ByteArray) (w : World) (e : Ending) (w' : World) : Prop :=
  e = .returned (.tuple #[]) ∧ Blk w' b 93 (crs v s sec hd) ∧ w.grownBy w' (some b)
set_option maxHeartbeats 1000000 in
set_option maxRecDepth 100000 in
theorem next_any (b : Nat) (A : Option Addr) (n c : Nat) (s : Sett) (sec : Int) (hd : ByteArray) (w : World) (h1 : 0 ≤ s.1) (h2 : s.1 ≤ 1000000) (h3 : 0 ≤ s.2.1) (h4 : s.2.1 ≤ 1000000) (h5 : 0 ≤ s.2.2) (h6 : s.2.2 ≤ 3)
    (hb : Blk w b 93 (crs (.slice A n c) s sec hd)) :
    Calls Try.prog 46 #[.pointer (some ⟨b, 0, none⟩)] w fun e w' => NextPost b (.slice A n c) (stNext n s) sec hd w e w' := by
  obtain ⟨i, l, a⟩ := s
  dsimp only at *
  obtain ⟨c0, c1, c2, c3, c4, c5⟩ := hb.cells6
  dsimp only at c1 c2 c3
  obtain ⟨f0, f1, f2, f3, f4, f5⟩ := hb.frozen6
  have HBK := Lib.hid hb; clear hb
  have HG := Lib.hid (World.grownBy.refl w (some b))
  have hcase : a = 0 ∨ a = 1 ∨ a = 2 ∨ a = 3 := by omega
  rcases hcase with rfl | rfl | rfl | rfl
  · by_cases hlt : (n : Int) ≤ i + 1
    · have hs : stNext n (i, l, 0) = ((i + 1, (n : Int), 1) : Sett) := by simp [stNext, hlt]
      rw [hs]
      have d1 : decide ((n : Int) ≤ i + 1) = true := decide_eq_true hlt
      clear hs
      go_enter Try.func46, Try.ntmps46
      go_wp2_with fail
      go_quiet (fail)
      go_wp2_with fail
      go_end0
      refine ⟨rfl, ?_, ?_⟩
      · exact (((HBK.out.set_ 1 _).drewN _).set_ 3 _).set_ 2 _
      · exact only_setCell (only_setCell (only_drewN (only_setCell HG.out (.inl rfl) _) _) (.inl rfl) _) (.inl rfl) _
    · have hs : stNext n (i, l, 0) = ((i + 1, l, 0) : Sett) := by simp [stNext, hlt]
      rw [hs]
      have d1 : decide ((n : Int) ≤ i + 1) = false := decide_eq_false hlt
      clear hs
      go_enter Try.func46, Try.ntmps46
      go_wp2_with fail
      go_quiet (fail)
      go_wp2_with fail
      go_end0
      refine ⟨rfl, ?_, ?_⟩
      · exact (HBK.out.set_ 1 _).drewN _
      · exact only_drewN (only_setCell HG.out (.inl rfl) _) _
  · by_cases hlt : l - 1 ≤ 0
    · have hs : stNext n (i, l, 1) = ((i, 0, 2) : Sett) := by simp [stNext]; omega
      rw [hs]
      clear hs
      go_enter Try.func46, Try.ntmps46
      go_wp2_with fail
      go_end0
      refine ⟨rfl, ?_, ?_⟩
      · exact ((HBK.out.set_ 2 _).set_ 3 _).set_ 2 _
      · exact only_setCell (only_setCell (only_setCell HG.out (.inl rfl) _) (.inl rfl) _) (.inl rfl) _
    · have hs : stNext n (i, l, 1) = ((i, l - 1, 1) : Sett) := by simp [stNext]; omega
      rw [hs]
      clear hs
      go_enter Try.func46, Try.ntmps46
      go_wp2_with fail
      go_end0
      refine ⟨rfl, ?_, ?_⟩
      · exact HBK.out.set_ 2 _
      · exact only_setCell HG.out (.inl rfl) _
  · have hs : stNext n (i, l, 2) = ((i, l, 3) : Sett) := by simp [stNext]
    rw [hs]
    clear hs
    go_enter Try.func46, Try.ntmps46
    go_wp2_with fail
    go_end0
    refine ⟨rfl, ?_, ?_⟩
    · exact HBK.out.set_ 3 _
    · exact only_setCell HG.out (.inl rfl) _
  · have hs : stNext n (i, l, 3) = ((i, l, 3) : Sett) := by simp [stNext]
    rw [hs]
    clear hs
    go_enter Try.func46, Try.ntmps46
    go_wp2_with fail
    go_end0
    refine ⟨rfl, ?_, ?_⟩
    · exact HBK.out
    · exact HG.out
end Go.Proofs.Ytllijcnbjbfabaa

namespace Go.Proofs.Ytllijcnbjbfabaa
theorem sealR_cases (k : Int) (l : Bs) : sealR k l = ([], 2) ∨ ∃ x, sealR k l = (x, 0) ∧ sealB k l = some x := by
  unfold sealR
  cases h : sealB k l with
  | none => exact .inl rfl
  | some x => exact .inr ⟨x, rfl, rfl⟩
theorem makeR_cases (k : Int) (rest : Bs) (ws l : List Int) : makeR k rest ws l = ([], 2) ∨ ∃ b x, makeR k rest ws l = (x, 0) ∧ fieldsB [] ws l = some b ∧ sealB k (b ++ rest) = some x := by
  unfold makeR
  cases h : fieldsB [] ws l with
  | none => exact .inl rfl
  | some b =>
    rcases sealR_cases k (b ++ rest) with h1 | ⟨x, h1, h2⟩
    · exact .inl h1
    · exact .inr ⟨b, x, h1, rfl, h2⟩
theorem ofR_seal {k : Int} {l s : Bs} (hk : k ≤ 127) (h : sealB k l = some s) : ofR k s = (l, 0) := by
  rw [ofR, openR_seal hk h, if_pos ⟨rfl, rfl⟩]
theorem ofR_other {k k' : Int} {l s : Bs} (hk : k ≤ 127) (h : sealB k l = some s) (hne : k ≠ k') : ofR k' s = ([], 30) := by
  rw [ofR, openR_seal hk h, if_neg (fun h => hne h.2)]
theorem fieldsR_make {k : Int} {rest b x : Bs} {ws l : List Int} (hk : k ≤ 127) (hf : fieldsB [] ws l = some b) (hs : sealB k (b ++ rest) = some x) : fieldsR k x ws = (l, rest, 0) := by
  obtain ⟨y, hy, ht⟩ := takeF_fields [] ws l b rest hf
  rw [List.nil_append] at hy
  subst hy
  rw [fieldsR, ofR_seal hk hs]
  simp only [if_true]
  rw [ht]
theorem sealB_len {k : Int} {l x : Bs} (h : sealB k l = some x) : 1 ≤ k ∧ l.length ≤ 505 ∧ x.length = l.length + 7 := by
  obtain ⟨a, b, _, c⟩ := sealB_parts h; exact ⟨a, b, c⟩
end Go.Proofs.Ytllijcnbjbfabaa
