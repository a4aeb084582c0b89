/- breakwaterlaw08.BallotNext returns true for every input: the next ballot is the node's, above all that was seen, the least such; two nodes' are unlike. No condition. -/
import Derived.Test.YtkmiknefbbjggaaRows
import Derived.Test.YtkmiknefbbjggaaWakes8
import Derived.Test.YtkmiknefbbjggaaFrame
namespace Go.Proofs.Ytkmiknefbbjggaa.ballotNext
open Go.ChangeShapes Go.WideShapes Go.ChangeAt Go.RowKit
open Go.ChangeMaps (open_string shut_string)
set_option linter.unusedVariables false

theorem early (n o : Int) (A : Option Addr) (k c : Nat) (w : World) (hk : k ≤ maxLen) (h : n < 0 ∨ 16 ≤ n ∨ o < 0 ∨ 16 ≤ o ∨ 100 < k) :
    Calls Try.prog 12 #[.int .i64 n, .int .i64 o, .slice A k c] w fun e w' => e = .returned (.bool true) ∧ Below w.heap.size w w' := by
  unfold maxLen at hk
  by_cases h1 : n < 0
  · go_enter Try.func12, Try.ntmps12
    go_wp2_with (go_at_call 31; refine (wakes08 _).mono ?_; rintro e w' ⟨rfl, hB⟩)
    go_ret
    exact ⟨rfl, hB⟩
  by_cases h2 : 16 ≤ n
  · go_enter Try.func12, Try.ntmps12
    go_wp2_with (go_at_call 31; refine (wakes08 _).mono ?_; rintro e w' ⟨rfl, hB⟩)
    go_ret
    exact ⟨rfl, hB⟩
  by_cases h3 : o < 0
  · go_enter Try.func12, Try.ntmps12
    go_wp2_with (go_at_call 31; refine (wakes08 _).mono ?_; rintro e w' ⟨rfl, hB⟩)
    go_ret
    exact ⟨rfl, hB⟩
  by_cases h4 : 16 ≤ o
  · go_enter Try.func12, Try.ntmps12
    go_wp2_with (go_at_call 31; refine (wakes08 _).mono ?_; rintro e w' ⟨rfl, hB⟩)
    go_ret
    exact ⟨rfl, hB⟩
  have b5 : (100 : Int) < (k : Int) := by omega
  clear h
  go_enter Try.func12, Try.ntmps12
  go_wp2_with (go_at_call 31; refine (wakes08 _).mono ?_; rintro e w' ⟨rfl, hB⟩)
  go_ret
  exact ⟨rfl, hB⟩

/-- the plain law of the last part -/
theorem law {n o m : Int} (hn : 0 ≤ n) (hn' : n < 16) (ho : 0 ≤ o) (ho' : o < 16) (h0 : 0 ≤ m) (hm : m ≤ 549755813888) :
    ∃ a b c : Int, nextR n m = a ∧ nextR o m = b ∧ nextR n (maxL 0 [a, b]) = c ∧ nodeR a = n ∧ nodeR c = n ∧ m < a ∧ a ≤ m + 31 ∧ (a - 16 ≤ m ∨ a < 32) ∧ a < c ∧ b < c ∧ (a + 16 < b ∨ c = a + 16) ∧ (n = o → a = b) ∧ (n ≠ o → a ≠ b) ∧ 0 ≤ b ∧ b ≤ m + 31 := by
  have ha := next_law hn (by omega) h0 (by omega)
  have hb := next_law ho (by omega) h0 (by omega)
  have hab : n = o → nextR n m = nextR o m := fun h => by rw [h]
  refine ⟨_, _, _, rfl, rfl, rfl, ?_⟩
  generalize nextR n m = a at *
  generalize nextR o m = b at *
  have hM : maxL 0 [a, b] = max (max 0 a) b := rfl
  have hc := next_law (most := maxL 0 [a, b]) hn (by omega) (by omega) (by omega)
  generalize nextR n (maxL 0 [a, b]) = c at *
  rw [hM] at hc
  clear hM
  rw [node_law (by omega) (by omega), node_law (by omega) (by omega)]
  refine ⟨by omega, by omega, by omega, by omega, by omega, by omega, by omega, ?_, hab, by omega, by omega, by omega⟩
  by_cases h : a + 16 < b
  · exact .inl h
  · refine .inr ?_
    by_cases e : n = o
    · have := hab e; omega
    · have : a ≠ b := by omega
      rcases Int.lt_or_gt_of_ne this with h1 | h1
      · have : b ≠ a + 16 := by omega
        omega
      · omega
theorem halves {l : List Int} (h : ∀ j (hj : j < l.length), l[j] ≤ 549755813888) : maxL 0 l ≤ 549755813888 := by
  rcases maxL_mem 0 l with h1 | h1
  · omega
  · obtain ⟨j, hj, e⟩ := List.getElem_of_mem h1
    have := h j hj; omega

set_option maxHeartbeats 4000000 in
set_option maxRecDepth 100000 in
theorem late (n o : Int) (A : Option Addr) (c : Nat) (l : List Int) (w : World) (h1 : 0 ≤ n) (h2 : n < 16) (h3 : 0 ≤ o) (h4 : o < 16) (hl : l.length ≤ 100) (hr : Reads w w.heap.size 1 A l.length (icells l)) :
    Calls Try.prog 12 #[.int .i64 n, .int .i64 o, .slice A l.length c] w fun e w' => e = .returned (.bool true) ∧ Below w.heap.size w w' := by
  have d1 : decide (n < 0) = false := by simp; omega
  have d2 : decide (16 ≤ n) = false := by simp; omega
  have d3 : decide (o < 0) = false := by simp; omega
  have d4 : decide (16 ≤ o) = false := by simp; omega
  have d5 : decide ((100 : Int) < (l.length : Int)) = false := by simp; omega
  have HR := Lib.hid hr; clear hr
  have HX1 := Lib.hid (fun w r => Next_any n A c l w (by omega) r)
  have HX2 := Lib.hid (fun w r => Next_any o A c l w (by omega) r)
  have hm0 := (maxL_ge 0 l).1
  have HLAW := Lib.hid (fun h => law (m := maxL 0 l) h1 h2 h3 h4 hm0 h)
  have HH := Lib.hid (@halves l)
  go_enter Try.func12, Try.ntmps12
  go_wp2_with fail
  go_loopg [7, 8] l.length (fun k m i wr => ∃ j : Nat, j ≤ l.length ∧ k = l.length - j ∧ m = .int .i64 (maxL 0 (l.take j)) ∧ i = .int .i64 j ∧ wr = w ∧ ∀ t (h : t < l.length), t < j → l[t] ≤ 549755813888)
  case atStart => exact ⟨0, by omega, rfl, rfl, rfl, rfl, fun t _ h => absurd h (by omega)⟩
  case round =>
    obtain ⟨j, hj, rfl, rfl, rfl, rfl, hn⟩ := hrel
    have HN := Lib.hid hn; clear hn
    clear d1 d2 d3 d4 d5
    by_cases hlt : j < l.length
    · obtain ⟨ad, rfl, _, hc⟩ := HR.out.cell_ hlt (icells_get l j hlt)
      have HM := Lib.hid (maxL_take 0 l j hlt)
      have HNX : Hid (∀ t (h : t < l.length), t < j + 1 → l[j] ≤ 549755813888 → l[t] ≤ 549755813888) := fun t h ht h0 => by
        rcases Nat.lt_or_ge t j with h1 | h1
        · exact HN.out t h h1
        · obtain rfl : t = j := by omega
          exact h0
      generalize l[j] = x at *
      generalize maxL 0 (l.take j) = M at *
      by_cases hx : 549755813888 < x
      · go_wp2_with (go_at_call 31; refine (wakes08 _).mono ?_; rintro e w' ⟨rfl, hB⟩)
        go_ret
        exact ⟨rfl, hB⟩
      · go_wp2_with fail
        all_goals
          go_roundg (l.length - (j + 1))
          case rel => exact ⟨j + 1, by omega, rfl, by rw [HM.out]; first | rw [show max M x = x by omega] | rw [show max M x = M by omega], by go_num, rfl, fun t h ht => HNX.out t h ht (by omega)⟩
          case measure => omega
    · have ht : l.take j = l := List.take_of_length_le (by omega)
      rw [ht]
      clear ht
      have hm := HH.out (fun t ht => HN.out t ht (by omega))
      obtain ⟨a, b, cc, ha, hb, hcc, hna, hnc, p1, p2, p3, p4, p5, p6, p7, p8, p9, p10⟩ := HLAW.out hm
      have x1 := HX1.out
      have x2 := HX2.out
      have x3 := fun w A r => Next_any n A 2 [a, b] w (by simp) r
      have y1 := fun w => Node_any a w
      have y2 := fun w => Node_any cc w
      rw [ha] at x1
      rw [hb] at x2
      rw [hcc] at x3
      rw [hna] at y1
      rw [hnc] at y2
      have X1 := Lib.hid x1; clear x1
      have X2 := Lib.hid x2; clear x2
      have X3 := Lib.hid x3; clear x3
      have Y1 := Lib.hid y1; clear y1
      have Y2 := Lib.hid y2; clear y2
      clear ha hb hcc hna hnc HX1 HX2 HLAW HH HN
      generalize maxL 0 l = m at *
      go_wp2_with fail
      refine (X1.out _ HR.out).mono ?_
      rintro e w1 ⟨rfl, hB⟩
      have HB1 := Lib.hid hB
      have HR1 := Lib.hid ((HR.out.below hB).more hB.size)
      clear hB
      go_wp2_with fail
      refine (X2.out _ HR1.out).mono ?_
      rintro e w2 ⟨rfl, hB⟩
      have HB2 := Lib.hid (below_step HB1.out hB HB1.out.size)
      clear hB HR1 HB1 HR
      have e1 : decide (a ≤ m) = false := by simp; omega
      have e2 : decide (m + 32 < a) = false := by simp; omega
      have e3 : (n != n) = false := by simp
      have e4 : (decide (m < a - 16) = true ∧ decide (32 ≤ a) = false) ∨ decide (m < a - 16) = false := by
        by_cases h : m < a - 16
        · exact .inl ⟨decide_eq_true h, by simp; omega⟩
        · exact .inr (decide_eq_false h)
      have e5 : decide (a + 16 < b) = true ∨ (decide (a + 16 < b) = false ∧ (cc == a + 16) = true) := by
        rcases p6 with h | h
        · exact .inl (decide_eq_true h)
        · by_cases h' : a + 16 < b
          · exact .inl (decide_eq_true h')
          · exact .inr ⟨decide_eq_false h', by simpa using h⟩
      have e7 : decide (a < cc) = true := decide_eq_true p4
      have e8 : decide (b < cc) = true := decide_eq_true p5
      clear p3 p6
      have e6 : (n = o ∧ a = b) ∨ ((a == b) = false ∧ (n == o) = false) := by
        by_cases h : n = o
        · exact .inl ⟨h, p7 h⟩
        · exact .inr ⟨beq_false_of_ne (p8 h), beq_false_of_ne h⟩
      clear p7 p8
      rcases e6 with ⟨rfl, rfl⟩ | ⟨e6, e6'⟩
      all_goals
        rcases e4 with ⟨e4, e4'⟩ | e4
        all_goals
          rcases e5 with e5 | ⟨e5, e5'⟩
          all_goals
            go_wp2_with fail
            refine (Y1.out _).mono ?_
            rintro e w3 ⟨rfl, rfl⟩
            go_wp2_with fail
            refine (X3.out _ _ (reads2 (Blk.new w2 _ _))).mono ?_
            rintro e w4 ⟨rfl, hB⟩
            have HB4 := Lib.hid (below_step (HB2.out.alloc HB2.out.size _) hB (by have := HB2.out.size; simp; omega)); clear hB HB2
            go_wp2_with fail
            refine (Y2.out _).mono ?_
            rintro e w5 ⟨rfl, rfl⟩
            go_wp2_with fail
            refine (wakes08 _).mono ?_
            rintro e w6 ⟨rfl, hB⟩
            have hB6 := below_step HB4.out hB HB4.out.size
            clear hB HB4
            go_wp2_with fail
            go_ret
            exact ⟨rfl, hB6⟩

theorem walk (n o : Int) (w0 : (Lit.int .i64 n).wf = true) (w1 : (Lit.int .i64 o).wf = true) (A : Option Addr) (l : List Int) (c : Nat) {W : World} (w2 : IsInts W A l c) (w : World) (hW : w = W) :
    Calls Try.prog 12 #[.int .i64 n, .int .i64 o, .slice A l.length c] w fun e w' => e = .returned (.bool true) ∧ Below w.heap.size w w' := by
  subst hW
  by_cases h : n < 0 ∨ 16 ≤ n ∨ o < 0 ∨ 16 ≤ o ∨ 100 < l.length
  · exact early n o A l.length c w (Nat.le_trans w2.2.2.1 w2.2.2.2) h
  · exact late n o A c l w (by omega) (by omega) (by omega) (by omega) (by omega) w2.1

theorem own : ownKnob Try.prog.godebug = none := by kernel_rfl
theorem laidOut : laidOutB Try.prog = true := by kernel_rfl
set_option maxRecDepth 100000 in
theorem lifted (os : Os) (started : os.Started) (H : Type) (enc : TypeId × Value → H) :
    ReturnsInHanded {} Try.checked os 12 .any (Rows.ballotNextSpec.pre6 enc Try.prog Try.f12 Rows.ballotNextRow.domain false) (Rows.ballotNextSpec.post enc Try.prog Try.f12 false true false false) := by
  refine returnsInHanded_of_change (C := Try.checked) own started (by kernel_rfl) Try.func12
    (ChangeSpec.witness6 (enc := enc) (C := Try.checked) false ⟨#[], #[.int .i64 0, .int .i64 0, .slice none 0 0], []⟩ 8 (by kernel_rfl) (by kernel_rfl) (by kernel_rfl) (by kernel_rfl)) ?_
  intro W base args ds gs before hval0 hW hcnd _
  have hval : ∀ (j : Nat) t v, Try.f12.params[j]? = some t → args[j]? = some v → Value.okWide Try.prog W .any base t v := hval0
  have hW' := hW
  obtain ⟨p, q, hA0, hV, rfl, hfz, hnd⟩ := hW
  have hA : DataW.TrodAll enc Try.prog W 0 (fun _ => true) true Try.f12.params.toList args.toList ds p := hA0
  rw [Try.params12] at hA hval
  obtain ⟨v0, vs0, d0, ds0, p0, q0, hargs, rfl, rfl, h0, r0⟩ := trodAll_cons hA
  obtain ⟨v1, vs1, d1, ds1, p1, q1, rfl, rfl, rfl, h1, r1⟩ := trodAll_cons r0
  obtain ⟨v2, vs2, d2, ds2, p2, q2, rfl, rfl, rfl, h2, r2⟩ := trodAll_cons r1
  obtain ⟨rfl, rfl, rfl⟩ := trodAll_nil r2
  obtain rfl : args = #[v0, v1, v2] := by cases args; simp_all
  obtain ⟨rfl, rfl⟩ := trodVars_none hV
  have k0 := h0
  have lt0 : ∀ x ∈ p0, x.block < W.heap.size := by obtain ⟨m, hm⟩ := k0; exact DataW.trod_lt m _ _ _ hm
  obtain ⟨a0, rfl, -, -, w0⟩ := open_int Try.underlying3 (hval 0 3 v0 rfl rfl) h0
  have k1 := h1
  have lt1 : ∀ x ∈ p1, x.block < W.heap.size := by obtain ⟨m, hm⟩ := k1; exact DataW.trod_lt m _ _ _ hm
  obtain ⟨a1, rfl, -, -, w1⟩ := open_int Try.underlying3 (hval 1 3 v1 rfl rfl) h1
  have k2 := h2
  have lt2 : ∀ x ∈ p2, x.block < W.heap.size := by obtain ⟨m, hm⟩ := k2; exact DataW.trod_lt m _ _ _ hm
  obtain ⟨a2, z2, c2, rfl, w2⟩ : ∃ (A : Option Addr) (zs : List Int) (c : Nat), v2 = .slice A zs.length c ∧ IsInts W A zs c :=
    open_ints_arg Try.underlying34 Try.underlying3 (by kernel_rfl) (hval 2 34 v2 rfl rfl) h2
  clear hA0 hval0
  refine (walk a0 a1 w0 w1 a2 z2 c2 w2 W rfl).mono fun e W' ⟨he, bel⟩ => ?_
  subst he
  exact ⟨_, rfl, _, _, _, [], _, [], hW', trodAll_mk1 (shut_bool Try.underlying4 _), (trodAll_cons_mk (Below.trod laidOut (by kernel_rfl) (of_decide_eq_true (by kernel_rfl)) k0 bel lt0) (trodAll_cons_mk (Below.trod laidOut (by kernel_rfl) (of_decide_eq_true (by kernel_rfl)) k1 bel lt1) (trodAll_cons_mk (Below.trod laidOut (by kernel_rfl) (of_decide_eq_true (by kernel_rfl)) k2 bel lt2) trodAll_mk0))), rfl, bel.frame _, fun h => by cases h⟩

/-- The statement. -/
theorem proved : Rows.BallotNextSaid :=
  OpenClaim.holds_of_wide 12 Try.f12 rfl rfl rfl rfl rfl rfl rfl ⟨rfl, rfl, rfl, rfl, rfl⟩ rfl rfl rfl rfl rfl (by kernel_rfl) Try.func12 (by kernel_rfl)
    (of_decide_eq_true (by kernel_rfl)) (by unfold Func.isWrapper; first | (rw [if_pos (by decide +kernel)]; kernel_rfl) | (rw [if_neg (by decide +kernel)]; exact ⟨rfl, rfl⟩))
    (fun os started H enc _ => lifted os started H enc)
end Go.Proofs.Ytkmiknefbbjggaa.ballotNext
