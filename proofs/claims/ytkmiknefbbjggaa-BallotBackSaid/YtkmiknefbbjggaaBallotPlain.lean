/- Plain laws of layer 8: what is made is read, what is read is made, a bit turned about is told. -/
import Derived.Test.YtkmiknefbbjggaaBallot5
import Derived.Test.YtkmiknefbbjggaaHarmPlain
import Derived.Test.YtkmiknefbbjggaaNext
namespace Go.Proofs.Ytkmiknefbbjggaa

theorem getS_fit {s : Bs} {w : Int} (h : (getS s 0 w).2 = 0) : fitsB (getS s 0 w).1 w = true ∧ leBytes w.toNat (getS s 0 w).1.toNat = s.take w.toNat := by
  have hz := getS_zero h
  obtain ⟨v, rfl⟩ := Int.eq_ofNat_of_zero_le (show 0 ≤ w by omega)
  unfold getS at h ⊢
  rw [if_pos ⟨by omega, by omega⟩, if_pos ⟨by omega, by omega⟩] at h ⊢
  by_cases hn : le ((s.drop (0 : Int).toNat).take (v : Int).toNat) ≤ 1099511627776
  · rw [if_pos hn]
    simp only [Int.toNat_natCast, Int.toNat_zero, List.drop_zero] at hn ⊢
    have hlt := le_lt (s.take v)
    have hl : (s.take v).length = v := by simp; omega
    rw [hl] at hlt
    refine ⟨decide_eq_true ⟨by omega, by omega, by omega, ?_⟩, ?_⟩
    · simp only [Int.toNat_natCast, mostW]; omega
    · conv => lhs; arg 1; rw [← hl]
      exact leBytes_le _
  · rw [if_neg hn] at h; simp at h
theorem takeF_back (s : Bs) (ws : List Int) (l : List Int) (rest : Bs) (h : takeF s ws = some (l, rest)) : ∃ y, s = y ++ rest ∧ ∀ b : Bs, (b ++ y).length ≤ 505 → fieldsB b ws l = some (b ++ y) := by
  induction ws generalizing s l rest with
  | nil => simp [takeF] at h; obtain ⟨rfl, rfl⟩ := h; exact ⟨[], by simp, fun b _ => by simp [fieldsB]⟩
  | cons w ws ih =>
    simp only [takeF] at h
    by_cases hg : (getS s 0 w).2 = 0
    · rw [if_pos hg] at h
      have hz := getS_zero hg
      have hf := getS_fit hg
      cases ht : takeF (s.drop w.toNat) ws with
      | none => rw [ht] at h; simp at h
      | some q =>
        rw [ht] at h
        simp at h
        obtain ⟨rfl, rfl⟩ := h
        obtain ⟨y, hy, hb⟩ := ih _ q.1 q.2 ht
        refine ⟨s.take w.toNat ++ y, by rw [List.append_assoc, ← hy, List.take_append_drop], fun b hl => ?_⟩
        simp only [fieldsB]
        have hl' : (b ++ s.take w.toNat).length ≤ 505 := by simp at hl ⊢; omega
        rw [hf.2, if_pos ⟨hf.1, hl'⟩, hb _ (by rw [List.append_assoc]; exact hl), List.append_assoc]
    · rw [if_neg hg] at h; cases h
theorem fieldsR_back {k : Int} {s rest : Bs} {ws l : List Int} (h : fieldsR k s ws = (l, rest, 0)) : makeR k rest ws l = (s, 0) := by
  unfold fieldsR at h
  by_cases ho : (ofR k s).2 = 0
  · rw [if_pos ho] at h
    cases ht : takeF (ofR k s).1 ws with
    | none => rw [ht] at h; simp at h
    | some r =>
      rw [ht] at h
      simp at h
      obtain ⟨rfl, rfl⟩ := h
      unfold ofR at ho ht
      by_cases hc : (openR s).2.2 = 0 ∧ (openR s).1 = k
      · rw [if_pos hc] at ht
        rcases openR_cases s with h1 | ⟨k', l', h1, _, _, hl5, hs⟩
        · rw [h1] at hc; simp at hc
        · rw [h1] at hc ht
          obtain ⟨_, rfl⟩ := hc
          dsimp only at ht
          obtain ⟨y, rfl, hb⟩ := takeF_back _ _ r.1 r.2 ht
          have := hb [] (by simp at hl5 ⊢; omega)
          rw [makeR, this]
          show sealR _ _ = _
          rw [List.nil_append, sealR, hs]
      · rw [if_neg hc] at ho; simp at ho
  · rw [if_neg ho] at h
    simp at h
    exact absurd h.2.2 ho
theorem takeF_harm {k : Int} {s : Bs} {ws : List Int} (h : openR s = (0, [], 30)) : fieldsR k s ws = ([], [], 30) := by
  have : ofR k s = ([], 30) := by rw [ofR, h, if_neg (by simp)]
  rw [fieldsR, this, if_neg (by simp)]

theorem readR_harm {s : Bs} (h : openR s = (0, [], 30)) (hne : s ≠ []) : readR s = ((0, 0, 0, []), 50) := by
  rw [readR, if_neg hne, takeF_harm h]
theorem readR_of {s v : Bs} {i m b : Int} (hne : s ≠ []) (h : fieldsR 4 s [2, 6, 6] = ([i, m, b], v, 0)) : readR s = if mayB i m b v = true then ((i, m, b, v), 0) else ((0, 0, 0, []), 50) := by
  rw [readR, if_neg hne, h]; rfl
theorem mayB_parts {i m b : Int} {v : Bs} (h : mayB i m b v = true) : 0 ≤ i ∧ i ≤ 512 ∧ 0 ≤ m ∧ m ≤ 1099511627776 ∧ 0 ≤ b ∧ b ≤ m ∧ v.length ≤ 64 := by
  unfold mayB betB at h
  simp only [Bool.and_eq_true, decide_eq_true_eq] at h
  omega
/-- a record that may be has a sector, which is read as it -/
theorem bytes_may {i m b : Int} {v : Bs} (h : mayB i m b v = true) : ∃ l x, bytesR i m b v = (x, 0) ∧ sealB 4 l = some x ∧ readR x = ((i, m, b, v), 0) ∧ x.length = 21 + v.length := by
  obtain ⟨h1, h2, h3, h4, h5, h6, h7⟩ := mayB_parts h
  have hf2 : fitsB i 2 = true := decide_eq_true ⟨by omega, by omega, h1, by simp [mostW]; omega⟩
  have hf : fieldsB [] [2, 6, 6] [i, m, b] = some (leBytes 2 i.toNat ++ leBytes 6 m.toNat ++ leBytes 6 b.toNat) := by
    simp only [fieldsB, List.nil_append]
    rw [if_pos ⟨hf2, by rw [leBytes_length]; decide⟩, if_pos ⟨fits6 h3 h4, by simp [leBytes_length]⟩, if_pos ⟨fits6 h5 (by omega), by simp [leBytes_length]⟩]
    rfl
  have hl : (leBytes 2 i.toNat ++ leBytes 6 m.toNat ++ leBytes 6 b.toNat ++ v).length = 14 + v.length := by simp [leBytes_length]; omega
  have hs : sealB 4 (leBytes 2 i.toNat ++ leBytes 6 m.toNat ++ leBytes 6 b.toNat ++ v) = some _ := sealB_some (by omega) (by omega)
  have hlen := (sealB_len hs).2.2
  have hfr := fieldsR_make (by omega) hf hs
  refine ⟨_, _, ?_, hs, ?_, by rw [hlen, hl]; omega⟩
  · rw [bytesR, if_pos h, makeR, hf]
    show sealR 4 _ = _
    rw [sealR, hs]
  · rw [readR_of (fun e => by rw [e] at hlen; simp at hlen) hfr, if_pos h]
theorem bytes_not {i m b : Int} {v : Bs} (h : mayB i m b v = false) : bytesR i m b v = ([], 2) := by rw [bytesR, if_neg (by rw [h]; simp)]
/-- what is read -/
theorem read_cases (s : Bs) : readR s = ((0, 0, 0, []), 50) ∧ s ≠ [] ∨ (s = [] ∧ readR s = ((0, 0, 0, []), 0)) ∨ ∃ i m b v, s ≠ [] ∧ readR s = ((i, m, b, v), 0) ∧ mayB i m b v = true ∧ bytesR i m b v = (s, 0) := by
  by_cases hne : s = []
  · subst hne; exact .inr (.inl ⟨rfl, rfl⟩)
  · rcases fieldsR_cases 4 s [2, 6, 6] with h | ⟨l, rest, h, hl⟩
    · exact .inl ⟨by rw [readR, if_neg hne, h], hne⟩
    · obtain ⟨i, m, b, rfl⟩ : ∃ i m b, l = [i, m, b] := by
        match l, hl with
        | [i, m, b], _ => exact ⟨i, m, b, rfl⟩
      have hr := readR_of hne h
      cases hm : mayB i m b rest with
      | true =>
        rw [hm, if_pos rfl] at hr
        exact .inr (.inr ⟨i, m, b, rest, hne, hr, hm, by rw [bytesR, if_pos hm]; exact fieldsR_back h⟩)
      | false =>
        rw [hm, if_neg (by simp)] at hr
        exact .inl ⟨hr, hne⟩
/-- a bit turned about -/
theorem read_flip {l x : Bs} {k : Nat} (hx : sealB 4 l = some x) (hk : k < 8 * x.length) : readR (flip x k) = ((0, 0, 0, []), 50) := by
  have hlen := (sealB_parts hx).2.2.2
  refine readR_harm (harm_told (f := k) (E := 1) (m := 1) hx (by omega) (flip_length x k) (by rw [le_flip x k hk, Nat.mul_one]) (by omega) (by omega) (by omega) ?_) ?_
  · omega
  · intro e
    have := flip_length x k
    rw [e] at this
    simp at this; omega
theorem read_small (s : Bs) (h : s.length < 7) (hne : s ≠ []) : readR s = ((0, 0, 0, []), 50) := readR_harm (openR_short h) hne

/-! ballots -/
theorem next_law {node most : Int} (h0 : 0 ≤ node) (h1 : node ≤ 15) (hm : 0 ≤ most) (hm2 : most ≤ 1099511627744) :
    most < nextR node most ∧ nextR node most ≤ most + 31 ∧ 16 ≤ nextR node most ∧ nextR node most % 16 = node ∧ (nextR node most - 16 ≤ most ∨ nextR node most < 32) ∧ nextR node most ≤ 1099511627776 := by
  rw [nextR, if_pos ⟨h0, h1, by omega⟩]
  by_cases h : most / 16 * 16 + node ≤ most ∨ most / 16 * 16 + node < 16
  · rw [if_pos h, if_pos (by omega)]; omega
  · rw [if_neg h, if_pos (by omega)]; omega
theorem node_law {n : Int} (h1 : 16 ≤ n) (h2 : n ≤ 1099511627776) : nodeR n = n % 16 := by rw [nodeR, if_pos ⟨h1, h2⟩]
end Go.Proofs.Ytkmiknefbbjggaa
