/- The walks of ballot: slices.Max, Next, Node. -/
import Derived.Test.YtkmiknefbbjggaaBallot
namespace Go.Proofs.Ytkmiknefbbjggaa
open Go.RowKit

/-- the greatest of numbers and of x -/
def maxL (x : Int) (l : List Int) : Int := l.foldl max x
theorem maxL_snoc (x : Int) (l : List Int) (y : Int) : maxL x (l ++ [y]) = max (maxL x l) y := by simp [maxL]
theorem maxL_ge (x : Int) (l : List Int) : x ≤ maxL x l ∧ ∀ y ∈ l, y ≤ maxL x l := by
  induction l generalizing x with
  | nil => simp [maxL]
  | cons a l ih =>
    have h := ih (max x a)
    have e : maxL x (a :: l) = maxL (max x a) l := rfl
    rw [e]
    refine ⟨by omega, fun y hy => ?_⟩
    rcases List.mem_cons.1 hy with rfl | hy
    · omega
    · exact h.2 y hy
theorem maxL_mem (x : Int) (l : List Int) : maxL x l = x ∨ maxL x l ∈ l := by
  induction l generalizing x with
  | nil => simp [maxL]
  | cons a l ih =>
    have e : maxL x (a :: l) = maxL (max x a) l := rfl
    rw [e]
    rcases ih (max x a) with h | h
    · rcases Int.le_total x a with h1 | h1
      · exact .inr (by rw [h]; simp [show max x a = a by omega])
      · exact .inl (by rw [h]; omega)
    · exact .inr (List.mem_cons_of_mem _ h)
theorem maxL_take (x : Int) (l : List Int) (j : Nat) (h : j < l.length) : maxL x (l.take (j + 1)) = max (maxL x (l.take j)) l[j] := by
  rw [List.take_succ_eq_append_getElem h, maxL_snoc]

set_option maxHeartbeats 1000000 in
theorem Max_any (A : Option Addr) (c : Nat) (x : Int) (l : List Int) (w : World) (hl : l.length ≤ 1000000) (hr : Reads w w.heap.size 1 A (x :: l).length (icells (x :: l))) :
    Calls Try.prog 52 #[.slice A (x :: l).length c] w fun e w' => e = .returned (.int .i64 (maxL x l)) ∧ w = w' := by
  obtain ⟨ad, rfl, _, hc0⟩ := hr.cell_ (k := 0) (by simp) (icells_get (x :: l) 0 (by simp))
  have HR := Lib.hid hr; clear hr
  have hlen : (x :: l).length = l.length + 1 := rfl
  rw [hlen]
  clear hlen
  simp only [List.getElem_cons_zero] at hc0
  have hz : ad.add 0 = ad := by unfold Addr.add; simp
  rw [hz] at hc0
  clear hz
  have hp : 0 < l.length + 1 := by omega
  go_enter Try.func52, Try.ntmps52
  go_wp2_with fail
  go_loopg [3, 4] l.length (fun k m i wr => ∃ j : Nat, j ≤ l.length ∧ k = l.length - j ∧ m = .int .i64 (maxL x (l.take j)) ∧ i = .int .i64 (j + 1) ∧ wr = w)
  case atStart => exact ⟨0, by omega, rfl, rfl, rfl, rfl⟩
  case round =>
    obtain ⟨j, hj, rfl, rfl, rfl, rfl⟩ := hrel
    by_cases hlt : j < l.length
    · obtain ⟨ad', had, _, hc⟩ := HR.out.cell_ (k := j + 1) (by simp; omega) (icells_get (x :: l) (j + 1) (by simp; omega))
      injection had with had
      subst had
      simp only [List.getElem_cons_succ] at hc
      have had : ad.add (j + 1) = { block := ad.block, off := ad.off + (j + 1) } := by unfold Addr.add; simp
      rw [had] at hc
      clear had
      have hm := maxL_take x l j hlt
      have HM := Lib.hid hm; clear hm
      have hx1 : ((j : Int) + 1).toNat = j + 1 := by omega
      generalize l[j] = n at *
      generalize maxL x (l.take j) = M at *
      go_wp2_with fail
      all_goals
        go_roundg (l.length - (j + 1))
        case rel => exact ⟨j + 1, by omega, rfl, by rw [HM.out]; first | rw [show max M n = n by omega] | rw [show max M n = M by omega], by go_num, rfl⟩
        case measure => omega
    · have ht : l.take j = l := List.take_of_length_le (by omega)
      rw [ht]
      clear ht
      go_wp2_with fail
      go_ret
      exact ⟨rfl, rfl⟩

/-- the next ballot of a node behind the greatest one -/
def nextR (node most : Int) : Int :=
  if 0 ≤ node ∧ node ≤ 15 ∧ most ≤ 1099511627776 then
    (if most / 16 * 16 + node ≤ most ∨ most / 16 * 16 + node < 16 then (if most / 16 * 16 + node + 16 ≤ 1099511627776 then most / 16 * 16 + node + 16 else 0)
      else if most / 16 * 16 + node ≤ 1099511627776 then most / 16 * 16 + node else 0)
  else 0
def nodeR (n : Int) : Int := if 16 ≤ n ∧ n ≤ 1099511627776 then n % 16 else -1

theorem Node_any (n : Int) (w : World) : Calls Try.prog 37 #[.int .i64 n] w fun e w' => e = .returned (.int .i64 (nodeR n)) ∧ w = w' := by
  have hb := fun w => between_any n 16 1099511627776 w
  by_cases h : 16 ≤ n ∧ n ≤ 1099511627776
  · rw [nodeR, if_pos h]
    rw [show betB n 16 1099511627776 = true from decide_eq_true h] at hb
    have HB := Lib.hid hb; clear hb
    obtain ⟨h1, h2⟩ := h
    go_enter Try.func37, Try.ntmps37
    go_wp2_with fail
    refine (HB.out _).mono ?_
    rintro e w1 ⟨rfl, rfl⟩
    go_wp2_with fail
    go_ret
    exact ⟨rfl, rfl⟩
  · rw [nodeR, if_neg h]
    rw [show betB n 16 1099511627776 = false from decide_eq_false h] at hb
    have HB := Lib.hid hb; clear hb h
    go_enter Try.func37, Try.ntmps37
    go_wp2_with fail
    refine (HB.out _).mono ?_
    rintro e w1 ⟨rfl, rfl⟩
    go_wp2_with fail
    go_ret
    exact ⟨rfl, rfl⟩

theorem next_of {node most r : Int} (h0 : 0 ≤ node) (h1 : node ≤ 15) (hm : 0 ≤ most) (hm2 : most ≤ 1099511627776) (hr : 1 ≤ r) (hr2 : r = 1 ∨ (r - 1) * 16 + node ≤ most) (hgt : most < r * 16 + node) :
    nextR node most = if r * 16 + node ≤ 1099511627776 then r * 16 + node else 0 := by
  rw [nextR, if_pos ⟨h0, h1, hm2⟩]
  by_cases h : most / 16 * 16 + node ≤ most ∨ most / 16 * 16 + node < 16
  · rw [if_pos h]
    have : most / 16 * 16 + node + 16 = r * 16 + node := by omega
    rw [this]
  · rw [if_neg h]
    have : most / 16 * 16 + node = r * 16 + node := by omega
    rw [this]

set_option maxHeartbeats 1000000 in
set_option maxRecDepth 100000 in
theorem Next_any (node : Int) (A : Option Addr) (c : Nat) (l : List Int) (w : World) (hl : l.length ≤ 100000) (hr : Reads w w.heap.size 1 A l.length (icells l)) :
    Calls Try.prog 36 #[.int .i64 node, .slice A l.length c] w fun e w' => e = .returned (.int .i64 (nextR node (maxL 0 l))) ∧ Below w.heap.size w w' := by
  obtain ⟨i0, hi0, hz0, hz1, hz2⟩ := info_parts i64_info
  have HR := Lib.hid hr; clear hr
  have hm0 := (maxL_ge 0 l).1
  have hbt := fun w => between_any node 0 15 w
  have hno : ¬ (0 ≤ node ∧ node ≤ 15 ∧ maxL 0 l ≤ 1099511627776) → nextR node (maxL 0 l) = 0 := fun h => by rw [nextR, if_neg h]
  have HNO := Lib.hid hno; clear hno
  have HO0 := Lib.hid (own_blk (Blk.new w 3 #[.int .i64 0]) (n := 1) rfl (by unfold maxLen; omega) (xs := icells [0]) rfl (base := w.heap.size) (Nat.le_refl _))
  have HBT0 := Lib.hid hbt; clear hbt
  have HMX0 := Lib.hid (fun A1 c1 w1 => Max_any A1 c1 0 l w1 (by omega))
  generalize maxL 0 l = most at *
  go_enter Try.func36, Try.ntmps36
  go_wp2_with (at_builtin; go_loud (refine wpList_append_any _ rfl (.tmp 8) (.tmp 9) 34 rfl w.heap.size 3 i0 (.int .i64 0) 1 8 Try.underlying34 hi0 hz0 hz1 hz2 rfl (by decide) (.slice (some ⟨w.heap.size, 0, none⟩) 1 1) 1 (icells [0]) (by rfl) HO0.out w.heap.size A l.length c (icells l) (by rfl) (HR.out.alloc (Nat.le_refl _) _) (icells_one l) (by unfold maxLen; omega) (by omega) (by simp) ?_); intro v1 w1 hown1 hg1 hat1)
  have hB1 : Below w.heap.size w w1 := below_own ((Below.refl _ _).alloc (Nat.le_refl _) _) HO0.out hg1 (by simp)
  obtain ⟨A1, c1, rfl, -, -, hr1⟩ := own_reads hown1
  have hmx := HMX0.out A1 c1 w1 (by have h := hr1; rw [Nat.add_comm] at h; exact h)
  have hcc : (0 :: l).length = 1 + l.length := by simp; omega
  rw [hcc] at hmx
  have HB1 := Lib.hid hB1
  have HMX := Lib.hid hmx
  clear hown1 hg1 hat1 hr1 hmx hcc hB1 HR hi0 hz0 hz1 hz2 HMX0
  go_wp2_with fail
  refine HMX.out.mono ?_
  rintro e w2 ⟨rfl, rfl⟩
  clear HMX
  have hbt := HBT0.out
  clear HBT0
  by_cases hb : 0 ≤ node ∧ node ≤ 15
  case neg =>
    have HN := Lib.hid (HNO.out (by omega))
    rw [show betB node 0 15 = false from decide_eq_false hb] at hbt
    have HBT := Lib.hid hbt; clear hbt hb
    go_wp2_with fail
    refine (HBT.out _).mono ?_
    rintro e w3 ⟨rfl, rfl⟩
    go_wp2_with fail
    go_ret
    exact ⟨by rw [HN.out]; rfl, HB1.out⟩
  rw [show betB node 0 15 = true from decide_eq_true hb] at hbt
  obtain ⟨h0, h1⟩ := hb
  have HBT := Lib.hid hbt; clear hbt
  have HB2 := HB1
  by_cases hm : most ≤ 1099511627776
  case neg =>
    have HN := Lib.hid (HNO.out (by omega))
    go_wp2_with fail
    refine (HBT.out _).mono ?_
    rintro e w3 ⟨rfl, rfl⟩
    go_wp2_with fail
    go_ret
    exact ⟨by rw [HN.out]; rfl, HB1.out⟩
  by_cases ha : 32 ≤ most - node
  · have hq : 1 < (most - node) / 16 := by omega
    go_wp2_with fail
    refine (HBT.out _).mono ?_
    rintro e w3 ⟨rfl, rfl⟩
    clear HBT
    go_wp2_with fail
    go_loopg [6] ((most + 16 - (most - node) / 16).toNat) (fun k r wr => ∃ n : Int, 1 ≤ n ∧ (n = 1 ∨ (n - 1) * 16 + node ≤ most) ∧ k = (most + 16 - n).toNat ∧ r = .int .i64 n ∧ wr = w1)
    case atStart => exact ⟨(most - node) / 16, by omega, by omega, rfl, rfl, rfl⟩
    case round =>
      obtain ⟨n, hn, hn2, rfl, rfl, rfl⟩ := hrel
      by_cases hlt : n * 16 + node ≤ most
      · go_wp2_with fail
        go_roundg ((most + 16 - (n + 1)).toNat)
        case rel => exact ⟨n + 1, by omega, by omega, rfl, rfl, rfl⟩
        case measure => omega
      · have hno := next_of h0 h1 hm0 hm hn hn2 (by omega)
        have HN := Lib.hid hno; clear hno
        by_cases hle : n * 16 + node ≤ 1099511627776
        · go_wp2_with fail
          go_ret
          exact ⟨by rw [HN.out, if_pos hle]; rfl, HB2.out⟩
        · go_wp2_with fail
          go_ret
          exact ⟨by rw [HN.out, if_neg (by omega)]; rfl, HB2.out⟩
  by_cases hd : 16 ≤ most - node
  · have hq : (most - node) / 16 = 1 := by omega
    go_wp2_with fail
    refine (HBT.out _).mono ?_
    rintro e w3 ⟨rfl, rfl⟩
    clear HBT
    go_wp2_with fail
    clear hq
    go_loopg [6] ((most + 16 - 1).toNat) (fun k r wr => ∃ n : Int, 1 ≤ n ∧ (n = 1 ∨ (n - 1) * 16 + node ≤ most) ∧ k = (most + 16 - n).toNat ∧ r = .int .i64 n ∧ wr = w1)
    case atStart => exact ⟨1, by omega, by omega, rfl, rfl, rfl⟩
    case round =>
      obtain ⟨n, hn, hn2, rfl, rfl, rfl⟩ := hrel
      by_cases hlt : n * 16 + node ≤ most
      · go_wp2_with fail
        go_roundg ((most + 16 - (n + 1)).toNat)
        case rel => exact ⟨n + 1, by omega, by omega, rfl, rfl, rfl⟩
        case measure => omega
      · have hno := next_of h0 h1 hm0 hm hn hn2 (by omega)
        have HN := Lib.hid hno; clear hno
        by_cases hle : n * 16 + node ≤ 1099511627776
        · go_wp2_with fail
          go_ret
          exact ⟨by rw [HN.out, if_pos hle]; rfl, HB2.out⟩
        · go_wp2_with fail
          go_ret
          exact ⟨by rw [HN.out, if_neg (by omega)]; rfl, HB2.out⟩
  by_cases hc : node ≤ most
  · have hq : (most - node) / 16 = 0 := by omega
    go_wp2_with fail
    refine (HBT.out _).mono ?_
    rintro e w3 ⟨rfl, rfl⟩
    clear HBT
    go_wp2_with fail
    clear hq
    go_loopg [6] ((most + 16 - 1).toNat) (fun k r wr => ∃ n : Int, 1 ≤ n ∧ (n = 1 ∨ (n - 1) * 16 + node ≤ most) ∧ k = (most + 16 - n).toNat ∧ r = .int .i64 n ∧ wr = w1)
    case atStart => exact ⟨1, by omega, by omega, rfl, rfl, rfl⟩
    case round =>
      obtain ⟨n, hn, hn2, rfl, rfl, rfl⟩ := hrel
      by_cases hlt : n * 16 + node ≤ most
      · go_wp2_with fail
        go_roundg ((most + 16 - (n + 1)).toNat)
        case rel => exact ⟨n + 1, by omega, by omega, rfl, rfl, rfl⟩
        case measure => omega
      · have hno := next_of h0 h1 hm0 hm hn hn2 (by omega)
        have HN := Lib.hid hno; clear hno
        by_cases hle : n * 16 + node ≤ 1099511627776
        · go_wp2_with fail
          go_ret
          exact ⟨by rw [HN.out, if_pos hle]; rfl, HB2.out⟩
        · go_wp2_with fail
          go_ret
          exact ⟨by rw [HN.out, if_neg (by omega)]; rfl, HB2.out⟩
  · have hq : (most - node).tdiv 16 = 0 := by
      have : most - node = -(node - most) := by omega
      rw [this, Int.neg_tdiv, Int.tdiv_eq_ediv_of_nonneg (by omega)]; omega
    go_wp2_with fail
    refine (HBT.out _).mono ?_
    rintro e w3 ⟨rfl, rfl⟩
    clear HBT
    go_wp2_with fail
    clear hq
    go_loopg [6] ((most + 16 - 1).toNat) (fun k r wr => ∃ n : Int, 1 ≤ n ∧ (n = 1 ∨ (n - 1) * 16 + node ≤ most) ∧ k = (most + 16 - n).toNat ∧ r = .int .i64 n ∧ wr = w1)
    case atStart => exact ⟨1, by omega, by omega, rfl, rfl, rfl⟩
    case round =>
      obtain ⟨n, hn, hn2, rfl, rfl, rfl⟩ := hrel
      by_cases hlt : n * 16 + node ≤ most
      · go_wp2_with fail
        go_roundg ((most + 16 - (n + 1)).toNat)
        case rel => exact ⟨n + 1, by omega, by omega, rfl, rfl, rfl⟩
        case measure => omega
      · have hno := next_of h0 h1 hm0 hm hn hn2 (by omega)
        have HN := Lib.hid hno; clear hno
        by_cases hle : n * 16 + node ≤ 1099511627776
        · go_wp2_with fail
          go_ret
          exact ⟨by rw [HN.out, if_pos hle]; rfl, HB2.out⟩
        · go_wp2_with fail
          go_ret
          exact ⟨by rw [HN.out, if_neg (by omega)]; rfl, HB2.out⟩
end Go.Proofs.Ytkmiknefbbjggaa
