/- PaxosKeeps: the second one's run. -/
import Derived.Test.YtakljpcmbpaeaaaGreatPaxosKeepsM41
import Derived.Test.YtakljpcmbpaeaaaGreatPaxosKeepsM23
import Derived.Test.YtakljpcmbpaeaaaGreatPaxosKeepsM02
set_option linter.unusedSimpArgs false
set_option linter.unusedVariables false
namespace Go.Proofs.YtakljpcmbpaeaaaGreat
open Go.RowKit

theorem RA_bd (a m : Nat) : (RA a m).Inst = 0 ∧ 0 ≤ (RA a m).Mbal ∧ (RA a m).Mbal ≤ 16 + a ∧ (RA a m).Bal ≤ 16 + a := by
  unfold RA
  split
  · refine ⟨rfl, ?_, ?_, ?_⟩ <;> dsimp only <;> omega
  · refine ⟨rfl, ?_, ?_, ?_⟩
    · exact Int.le_refl 0
    · show (0 : Int) ≤ _; omega
    · show (0 : Int) ≤ _; omega
theorem nextR_bd {n : Nat} (h : n ≤ 15) {m : Int} (h0 : 0 ≤ m) (h1 : m ≤ 1000) : m < nextR n m ∧ nextR n m ≤ m + 31 ∧ nextR n m % 16 = n := by
  obtain ⟨q1, q2, q3, q4, q5⟩ := next_law (node := n) (most := m) (by omega) (by omega) h0 (by omega)
  exact ⟨q1, q2, q4⟩
section
variable {L N : Nat} [BigL L] {x : yAW} {s : List ByteArray} {t : yAJ}
structure Ready (N : Nat) (x : yAW) (a b : Nat) (s : List ByteArray) (r : yAN) (S : Int) : Prop where
  g : PGeo x N s
  rcs : ∀ m, m < N → m ≠ b → RecIs (s.getD (1 + (N : Int) + (m : Int)).toNat noS) (RA a m)
  own : RecIs (s.getD (1 + (N : Int) + (b : Int)).toNat noS) r
  log : ∀ k : Int, 0 ≤ k → k < x.Log → s.getD (1 + 2 * (N : Int) + k).toNat noS = noS
  r0 : r.Inst = 0 ∧ r.Bal = 0 ∧ r.Val = noS ∧ 0 ≤ r.Mbal ∧ r.Mbal ≤ 31
  s0 : 0 ≤ S ∧ S ≤ 31
  big : 16 + (a : Int) < nextR b (max (max 0 r.Mbal) S)
theorem ready (hL : 200000 < L) (h : PGeo x N s) {a b : Nat} (ha : a < N) (hb : b < N) (hab : a ≠ b) (hrec : ∀ m, m < N → m ≠ b → RecIs (s.getD (1 + (N : Int) + (m : Int)).toNat noS) (RA a m)) (hown : s.getD (1 + (N : Int) + (b : Int)).toNat noS = noS)
    (hlog : ∀ k : Int, 0 ≤ k → k < x.Log → s.getD (1 + 2 * (N : Int) + k).toNat noS = noS) :
    ∃ (k : Nat) (s' : List ByteArray) (r : yAN) (T : yAG), k ≤ N + 2 ∧ Ready N x a b s' r T.Seen ∧ PRuns L x N b k ⟨s, ⟨b, cb b, 0, 0, yAN.z, yAG.z⟩, t, 0⟩ ⟨s', ⟨b, cb b, 0, 0, yAN.z, T⟩, t, 0⟩ := by
  obtain ⟨n1, n2, l8, l512, s1, s16, sl, hl⟩ := h.bd
  have e0 : (recAt yAN.z 0) = yAN.z := rfl
  rcases Nat.lt_or_ge a b with hlt | hge
  · exact ⟨0, s, yAN.z, yAG.z, Nat.zero_le _, ⟨h, hrec, .inl ⟨hown, rfl⟩, hlog, ⟨rfl, rfl, rfl, Int.le_refl 0, by show (0 : Int) ≤ 31; omega⟩, ⟨Int.le_refl 0, by show (0 : Int) ≤ 31; omega⟩, by
      show 16 + (a : Int) < nextR b (max (max 0 0) 0)
      rw [next0 (by omega)]; omega⟩, .nil _⟩
  · have hm := mayR_no (i := 0) (m := 16 + (b : Int)) (Int.le_refl 0) (by omega) (by omega) (by omega)
    obtain ⟨q1, q2, q3, q4, q5⟩ := seenA (N := N) (a := a) (b := b) ha hab (M := 16 + (b : Int)) (S0 := 0) (B := 31) (by omega) (by omega) (by omega) (by omega)
    have st := stopped (R := RA a) (s := s) (t := t) (d := 0) (n := b) (cmd := cb b) (own := cN b) (r := yAN.z) (i := 0) (own0 := yAN.z) (T0 := yAG.z) (M := 16 + (b : Int)) (o1 := ⟨0, 16 + (b : Int), 0, noS⟩) hL h hb (Int.le_refl 0) (by omega) (hlog 0 (Int.le_refl 0) (by omega)) (.inl ⟨hown, rfl⟩) hrec (cRead_enc hL10 (cN_may (by omega))) (by rintro ⟨_, q⟩; omega) (by
      show (16 : Int) + b = nextR b (max (max 0 0) 0)
      rw [next0 (by omega)]) (by omega) rfl rfl hm (T1 := rdT (RA a) b N 0 (tBegin ⟨0, 16 + (b : Int), 0, noS⟩ 0)) rfl (by rw [q3]; exact decide_eq_true (by omega))
    have hr := rst_n hb
    generalize rdT (RA a) b N 0 (tBegin ⟨0, 16 + (b : Int), 0, noS⟩ 0) = T1 at *
    refine ⟨3 + rst b N 0, _, ⟨0, 16 + (b : Int), 0, noS⟩, ⟨0, 0, 0, noS, T1.Seen, false, false⟩, by omega, ⟨h.set _ (by have := (recB_len hm).1; omega), fun m h1 h2 => ?_, .inr ⟨hm, get_set (by omega) (by omega)⟩, fun k h1 h2 => ?_, ⟨rfl, rfl, rfl, by dsimp only; omega, by dsimp only; omega⟩, ⟨by show 0 ≤ T1.Seen; omega, q5⟩, ?_⟩, st⟩
    · rw [get_ne (by omega) (by omega) (by omega)]; exact hrec m h1 h2
    · rw [get_ne (by omega) (by omega) (by omega)]; exact hlog k h1 h2
    · dsimp only
      obtain ⟨z1, z2, z3⟩ := nextR_bd (n := b) (by omega) (m := max (max 0 (16 + (b : Int))) T1.Seen) (by omega) (by omega)
      omega
theorem keepB (hL : 200000 < L) (h : PGeo x N s) {a b : Nat} (ha : a < N) (hb : b < N) (hab : a ≠ b) (ht : TOk t) (hrec : ∀ m, m < N → m ≠ b → RecIs (s.getD (1 + (N : Int) + (m : Int)).toNat noS) (RA a m)) (hown : s.getD (1 + (N : Int) + (b : Int)).toNat noS = noS)
    (hlog : ∀ k : Int, 0 ≤ k → k < x.Log → s.getD (1 + 2 * (N : Int) + k).toNat noS = noS) :
    ∃ (k : Nat) (p2 c : PSt), k ≤ 5 * N + 7 ∧ PRuns L x N b k ⟨s, ⟨b, cb b, 0, 0, yAN.z, yAG.z⟩, t, 0⟩ p2 ∧ PStep L x N b p2 c true ∧ PGeo x N c.s ∧
      c.s.getD (1 + 2 * (N : Int) + 0).toNat noS = secC (cN a) ∧ c.s.getD (1 + 2 * (N : Int) + 1).toNat noS = secC (cN b) ∧ c.s.getD (1 + 2 * (N : Int) + 2).toNat noS = noS := by
  obtain ⟨n1, n2, l8, l512, s1, s16, sl, hl⟩ := h.bd
  have hr := rst_n hb
  obtain ⟨k0, s', r, T, hk0, R, run0⟩ := ready (t := t) hL h ha hb hab hrec hown hlog
  obtain ⟨r1, r2, r3, r4, r5⟩ := R.r0
  obtain ⟨S1, S2⟩ := R.s0
  obtain ⟨z1, z2, z3⟩ := nextR_bd (n := b) (by omega) (m := max (max 0 r.Mbal) T.Seen) (by omega) (by omega)
  have hbig := R.big
  have hat : recAt r 0 = r := if_pos r1
  generalize hM : nextR b (max (max 0 r.Mbal) T.Seen) = M at *
  -- the first place: a's command
  obtain ⟨q1, q2, q3, q4, q5⟩ := seenA (N := N) (a := a) (b := b) ha hab (M := M) (S0 := T.Seen) (B := 100) (by omega) (by omega) (by omega) (by omega)
  generalize hT1 : rdT (RA a) b N 0 (tBegin ⟨0, M, 0, noS⟩ T.Seen) = T1 at *
  have hm1 := mayR_no (i := 0) (m := M) (Int.le_refl 0) (by omega) (by omega) (by omega)
  have hm2 := mayR_val (i := 0) (m := M) (c := cN a) (Int.le_refl 0) (by omega) (by omega) (by omega)
  obtain ⟨c1, c2, c3, c4⟩ := calm (R := RA a) (n := b) (N := N) (d := 0) (M := M) (B0 := M) (B := 100) (v0 := cb a) (fun m _ _ => by
    obtain ⟨g1, g2, g3, g4⟩ := RA_bd a m
    exact ⟨by omega, fun _ => ⟨by omega, by omega⟩, by omega⟩) (T := tBegin ⟨0, M, M, cb a⟩ T1.Seen) rfl rfl rfl rfl rfl (by show max T1.Seen M ≤ 100; omega)
  have A1 := attempt (R := RA a) (s := s') (t := t) (d := 0) (n := b) (cmd := cb b) (own := cN b) (r := r) (i := 0) (own0 := yAN.z) (T0 := T) (M := M) (o1 := ⟨0, M, 0, noS⟩) (T1 := T1) (v := cb a) hL R.g hb (Int.le_refl 0) (by omega) (R.log 0 (Int.le_refl 0) (by omega)) R.own R.rcs (cRead_enc hL10 (cN_may (by omega))) (by rintro ⟨_, q⟩; omega) (by rw [hat]; exact hM.symm) (by omega)
    (by rw [hat, r2, r3]) (by rw [hat]; exact r1) hm1 hT1.symm (by rw [q3]; exact decide_eq_false (by omega)) (by rw [q1, if_pos (by omega), q2]) hm2 c2
  generalize hT2 : rdT (RA a) b N 0 (tBegin ⟨0, M, M, cb a⟩ T1.Seen) = T2 at *
  have b1 := (recB_len hm1).1
  have b2 : (recB ⟨0, M, M, cb a⟩).size ≤ 100 := (recB_len hm2).1
  have G1 := (R.g.set (1 + (N : Int) + (b : Int)).toNat (b := recB ⟨0, M, 0, noS⟩) (by omega)).set (1 + (N : Int) + (b : Int)).toNat (b := recB ⟨0, M, M, cb a⟩) (by omega)
  obtain ⟨t1, hA, ht1⟩ := apply_mount (L := L) (x := x) (c := cN a) hL ht rfl
  have D1 := step_dec (L := L) (x := x) (N := N) (a := ⟨(s'.set (1 + (N : Int) + (b : Int)).toNat (recB ⟨0, M, 0, noS⟩)).set (1 + (N : Int) + (b : Int)).toNat (recB ⟨0, M, M, cb a⟩), ⟨b, cb b, 6, N, ⟨0, M, M, cb a⟩, T2⟩, t, 0⟩) (c := cN a) hL G1 (by show (0 : Int) ≤ b; omega) (by show (b : Int) < N; omega) rfl (Int.le_refl 0) (by show (0 : Int) < x.Log; omega) (cN_may (by omega)) rfl hA (cRead_enc hL10 (cN_may (n := b) (by omega)))
  rw [show decide ((cN a).By = (cN b).By ∧ (cN a).Serial = (cN b).Serial) = false from decide_eq_false (fun q => by have : 17 * (a : Int) + 16 = 17 * (b : Int) + 16 := q.1; omega)] at D1
  dsimp only at D1
  -- what stands then
  have sc := secC_len (cN a)
  have G2 := G1.set (1 + 2 * (N : Int) + 0).toNat (b := secC (cN a)) (by omega)
  generalize hs2 : ((s'.set (1 + (N : Int) + (b : Int)).toNat (recB ⟨0, M, 0, noS⟩)).set (1 + (N : Int) + (b : Int)).toNat (recB ⟨0, M, M, cb a⟩)).set (1 + 2 * (N : Int) + 0).toNat (secC (cN a)) = s2 at *
  have hl' := R.g.bd.2.2.2.2.2.2.2
  have hlen2 : s2.length = s'.length := by rw [← hs2]; simp only [List.length_set]
  have own2 : RecIs (s2.getD (1 + (N : Int) + (b : Int)).toNat noS) ⟨0, M, M, cb a⟩ := .inr ⟨hm2, by rw [← hs2, get_ne (by omega) (by omega) (by omega), get_set (by omega) (by rw [List.length_set]; omega)]⟩
  have rec2 : ∀ m, m < N → m ≠ b → RecIs (s2.getD (1 + (N : Int) + (m : Int)).toNat noS) (RA a m) := fun m g1 g2 => by
    rw [← hs2, get_ne (by omega) (by omega) (by omega), get_ne (by omega) (by omega) (by omega), get_ne (by omega) (by omega) (by omega)]
    exact R.rcs m g1 g2
  have log2 : ∀ k : Int, 1 ≤ k → k < x.Log → s2.getD (1 + 2 * (N : Int) + k).toNat noS = noS := fun k g1 g2 => by
    rw [← hs2, get_ne (by omega) (by omega) (by omega), get_ne (by omega) (by omega) (by omega), get_ne (by omega) (by omega) (by omega)]
    exact R.log k (by omega) g2
  have log20 : s2.getD (1 + 2 * (N : Int) + 0).toNat noS = secC (cN a) := by
    rw [← hs2, get_set (by omega) (by simp only [List.length_set]; omega)]
  -- the second place: b's own
  have hat2 : recAt ⟨0, M, M, cb a⟩ 1 = ⟨1, M, 0, noS⟩ := if_neg (by show ¬ (0 : Int) = 1; omega)
  obtain ⟨y1, y2, y3⟩ := nextR_bd (n := b) (by omega) (m := max (max 0 M) T2.Seen) (by omega) (by omega)
  generalize hM2 : nextR b (max (max 0 M) T2.Seen) = M2 at *
  have hm3 := mayR_no (i := 1) (m := M2) (by omega) (by omega) (by omega) (by omega)
  have hm4 := mayR_val (i := 1) (m := M2) (c := cN b) (by omega) (by omega) (by omega) (by omega)
  obtain ⟨d1, d2, d3, d4⟩ := calm (R := RA a) (n := b) (N := N) (d := 1) (M := M2) (B0 := 0) (B := 200) (v0 := noS) (fun m _ _ => by
    obtain ⟨g1, g2, g3, g4⟩ := RA_bd a m
    exact ⟨by omega, fun q => by omega, by omega⟩) (T := tBegin ⟨1, M2, 0, noS⟩ T2.Seen) rfl rfl rfl rfl rfl (by show max T2.Seen M2 ≤ 200; omega)
  generalize hT3 : rdT (RA a) b N 0 (tBegin ⟨1, M2, 0, noS⟩ T2.Seen) = T3 at *
  obtain ⟨e1, e2, e3, e4⟩ := calm (R := RA a) (n := b) (N := N) (d := 1) (M := M2) (B0 := M2) (B := 200) (v0 := cb b) (fun m _ _ => by
    obtain ⟨g1, g2, g3, g4⟩ := RA_bd a m
    exact ⟨by omega, fun q => by omega, by omega⟩) (T := tBegin ⟨1, M2, M2, cb b⟩ T3.Seen) rfl rfl rfl rfl rfl (by show max T3.Seen M2 ≤ 200; omega)
  have A2 := attempt (R := RA a) (s := s2) (t := t1) (d := 1) (n := b) (cmd := cb b) (own := cN b) (r := ⟨0, M, M, cb a⟩) (i := 0) (own0 := yAN.z) (T0 := ⟨0, 0, 0, noS, T2.Seen, false, false⟩) (M := M2) (o1 := ⟨1, M2, 0, noS⟩) (T1 := T3) (v := cb b) hL G2 hb (by omega) (by omega) (log2 1 (by omega) (by omega)) own2 rec2 (cRead_enc hL10 (cN_may (by omega))) (by rintro ⟨_, q⟩; omega) (by rw [hat2]; exact hM2.symm) (by omega)
    (by rw [hat2]) (by rw [hat2]) hm3 hT3.symm d2 (by rw [d1, if_neg (by omega)]) hm4 e2
  generalize hT4 : rdT (RA a) b N 0 (tBegin ⟨1, M2, M2, cb b⟩ T3.Seen) = T4 at *
  have b3 := (recB_len hm3).1
  have b4 : (recB ⟨1, M2, M2, cb b⟩).size ≤ 100 := (recB_len hm4).1
  have G3 := (G2.set (1 + (N : Int) + (b : Int)).toNat (b := recB ⟨1, M2, 0, noS⟩) (by omega)).set (1 + (N : Int) + (b : Int)).toNat (b := recB ⟨1, M2, M2, cb b⟩) (by omega)
  obtain ⟨t2, hA2, ht2⟩ := apply_mount (L := L) (x := x) (c := cN b) hL ht1 rfl
  have D2 := step_dec (L := L) (x := x) (N := N) (a := ⟨(s2.set (1 + (N : Int) + (b : Int)).toNat (recB ⟨1, M2, 0, noS⟩)).set (1 + (N : Int) + (b : Int)).toNat (recB ⟨1, M2, M2, cb b⟩), ⟨b, cb b, 6, N, ⟨1, M2, M2, cb b⟩, T4⟩, t1, 1⟩) (c := cN b) hL G3 (by show (0 : Int) ≤ b; omega) (by show (b : Int) < N; omega) rfl (by show (0 : Int) ≤ 1; omega) (by show (1 : Int) < x.Log; omega) (cN_may (by omega)) rfl hA2 (cRead_enc hL10 (cN_may (n := b) (by omega)))
  rw [show decide ((cN b).By = (cN b).By ∧ (cN b).Serial = (cN b).Serial) = true from decide_eq_true ⟨rfl, rfl⟩] at D2
  have sc2 := secC_len (cN b)
  refine ⟨k0 + (3 + rst b N 0 + (1 + rst b N 0) + (1 + (3 + rst b N 0 + (1 + rst b N 0)))), _, _, by omega, run0.trans (A1.trans (.trans (.one D1) A2)), D2, G3.set _ (by omega), ?_, ?_, ?_⟩
  · dsimp only
    rw [get_ne (by omega) (by omega) (by omega), get_ne (by omega) (by omega) (by omega), get_ne (by omega) (by omega) (by omega)]
    exact log20
  · dsimp only
    exact get_set (by omega) (by simp only [List.length_set]; omega)
  · dsimp only
    rw [get_ne (by omega) (by omega) (by omega), get_ne (by omega) (by omega) (by omega), get_ne (by omega) (by omega) (by omega)]
    exact log2 2 (by omega) (by omega)
end
end Go.Proofs.YtakljpcmbpaeaaaGreat

namespace Go.Proofs.YtakljpcmbpaeaaaGreat
open Go.RowKit

theorem r8Read {L : Nat} [BigL L] {i m : Int} {c : yAF} (h : MayR ⟨i, m, m, mkS (cmdL c)⟩) (h0 : 0 < m) : yJq L (recB ⟨i, m, m, mkS (cmdL c)⟩) = some (⟨i, m, m, mkS (cmdL c)⟩, 0, ()) := by
  have hs := recB_len h
  obtain ⟨p1, p2, p3, p4, p5, p6, p7⟩ := mayB_parts h
  have hb : bytesR i m m (mkS (cmdL c)).data.toList = makeR 4 (mkS (cmdL c)).data.toList [2, 6, 6] [i, m, m] := by
    unfold bytesR
    exact if_pos h
  have hl := cmdL_len c
  have hF : yFs L 4 (recB ⟨i, m, m, mkS (cmdL c)⟩) [[V.int .i64 2], [V.int .i64 6], [V.int .i64 6]] = some ([[V.int .i64 i], [V.int .i64 m], [V.int .i64 m]], mkS (cmdL c), 0, ()) := by
    refine (rFields_eq hL3 (ws := [2, 6, 6]) (by omega) (by have := hL3 (L := L); simp; omega) (by simp) 4).trans ?_
    show some ((fieldsR 4 (recB ⟨i, m, m, mkS (cmdL c)⟩).data.toList [2, 6, 6]).1.map inV, mkS (fieldsR 4 (recB ⟨i, m, m, mkS (cmdL c)⟩).data.toList [2, 6, 6]).2.1, (fieldsR 4 (recB ⟨i, m, m, mkS (cmdL c)⟩).data.toList [2, 6, 6]).2.2, ()) = _
    unfold recB
    dsimp only
    obtain ⟨l, x, h1, h2, h3, h4⟩ := bytes_may h
    rcases makeR_cases 4 (mkS (cmdL c)).data.toList [2, 6, 6] [i, m, m] with e | ⟨b, y, e1, e2, e3⟩
    · dsimp only at h1
      rw [hb, e] at h1
      injection h1 with h1 h5
      cases h5
    · rw [hb, e1]
      dsimp only
      rw [mkS_l, fieldsR_make (by omega) e2 e3, mkS_data]
      rfl
  have hM : yJp L ⟨i, m, m, mkS (cmdL c)⟩ = some true := by
    unfold yJp yMH
    dsimp only at p1 p2 p3 p4 p5 p6 p7 ⊢
    rw [mkS_l] at p7
    rw [bif_f (decide_eq_false (by omega)), bif_f (decide_eq_false (by omega)), bif_f (decide_eq_false (by omega)), bif_f (decide_eq_false (by omega)), bif_f (decide_eq_false (by omega)), bif_f (decide_eq_false (by omega)), bif_f (show decide (64 < ((mkS (cmdL c)).size : Int)) = false from decide_eq_false (by rw [mkS_n]; omega)), decide_eq_true h0, ne_noS (by rw [mkS_n]; omega)]
    rfl
  unfold yJq yLQ
  rw [ne_noS hs.2, cond_false, hF, bindO_s]
  show (bindO (yJp L ⟨i, m, m, mkS (cmdL c)⟩) fun r2 => _) = _
  rw [hM]
  rfl
section
variable {L N : Nat} [BigL L] {x : yAW} {s : List ByteArray}
theorem mount_eq {n : Nat} (h : n < N) (h2 : N ≤ 16) : yFV L (dvF s N) n 1 = some (cb n) := by
  have hk : (dvF s N).Keys = ((List.range N).map (keyN N)).map inV := rfl
  have hb := rBytes_enc hL10 (L := L) (c := cN n) (cN_may (by omega)) (by show ¬ (0 : Int) = 2; omega) (by show ¬ (0 : Int) = 3; omega)
  unfold yFV yJ7
  rw [hk, keys_gI (by omega) (by omega), Int.toNat_natCast, keys_at h, show keyN N n = 17 * (n : Int) + 16 from if_pos h]
  show (bindO (yEP L (cN n)) fun r1 => some r1.1) = _
  rw [hb]; rfl
theorem pBegin_eq {n : Nat} (h : PGeo x N s) (hn : n < N) : yFW L x n (cb n) = some (⟨n, cb n, 0, 0, yAN.z, yAG.z⟩, 0, ()) := by
  have hb := h.bd
  have hM : yGe L x = some true := by rw [gMay_eq hL10 (geo_i64 h.may), h.may]
  have hO : yJf L (cN n).By = some (n : Int) := by
    unfold yJf yK0
    rw [cKey_eq, decide_eq_true (cN_may (n := n) (by omega)).1, bindO_s, cond_true]
    show some ((17 * (n : Int) + 16).tmod 16) = _
    rw [Int.tmod_eq_emod_of_nonneg (by omega)]
    congr 1
    omega
  unfold yFW yJ9
  rw [cRead_enc hL10 (cN_may (by omega)), bindO_s]
  dsimp only
  rw [show ((0 : Int) != 0) = false from rfl, cond_false, hM, bindO_s, Bool.not_true, cond_false, bif_f (decide_eq_false (by omega)), bif_f (decide_eq_false (by rw [h.n]; omega)), hO, bindO_s, bif_f (show ((n : Int) != n) = false from bne_self_eq_false _)]
theorem wrapN {y : Int} (hN : x.Nodes = N) (h1 : 1 ≤ N) (h2 : N ≤ 16) : ∃ m : Nat, m < N ∧ (w64 ((y.tmod x.Nodes) + x.Nodes)).tmod x.Nodes = m := by
  rw [hN]
  have t1 := Int.tmod_lt_of_pos y (show (0 : Int) < N by omega)
  have t2 : -(N : Int) < y.tmod N := by
    have := Int.lt_tmod_of_pos y (show (0 : Int) < N by omega)
    omega
  rw [w64_t (by omega) (by omega), Int.tmod_eq_emod_of_nonneg (by omega)]
  have e1 := Int.emod_nonneg (y.tmod N + N) (show (N : Int) ≠ 0 by omega)
  have e2 := Int.emod_lt_of_pos (y.tmod N + N) (show (0 : Int) < N by omega)
  exact ⟨((y.tmod N + N) % N).toNat, by omega, by omega⟩
end
theorem few_eq {L : Nat} [BigL L] {x : yAW} : ∃ b, yK6 L x = some b ∧ (b = true → (geoOf x).may = true ∧ x.Nodes ≤ 4) := by
  unfold yK6 yL6
  have hM : yBa L x = some (geoOf x).may := rMay_eq x
  rw [hM, bindO_s]
  cases hm : (geoOf x).may with
  | false => exact ⟨false, rfl, nofun⟩
  | true =>
    rw [cond_true]
    by_cases h1 : x.Nodes ≤ 4
    · rw [bif_t (decide_eq_true h1)]
      by_cases h2 : x.Log ≤ 60
      · rw [bif_t (decide_eq_true h2), rTotal_eq, bindO_s]
        exact ⟨_, rfl, fun _ => ⟨rfl, h1⟩⟩
      · rw [bif_f (decide_eq_false h2)]
        exact ⟨false, rfl, nofun⟩
    · rw [bif_f (decide_eq_false h1)]
      exact ⟨false, rfl, nofun⟩
instance bigL0 : BigL 2000000 := ⟨by decide⟩
theorem wakes15 : yGj 2000000 = some true := by kernel_rfl
set_option maxHeartbeats 2000000 in
theorem mKeeps {L : Nat} [BigL L] (hL : 1000000 < L) (hw : yGj L = some true) (x : yAW) (y z : Int) : yHx L x y z = some true := by
  have wk : (bindO (yGj L) fun r => some r) = some true := by rw [hw]; rfl
  obtain ⟨f, hf, hff⟩ := few_eq (L := L) (x := x)
  unfold yHx yGC
  rw [hf, bindO_s]
  cases f with
  | false => rw [Bool.not_false, cond_true, wk]
  | true =>
  obtain ⟨hm, hn4⟩ := hff rfl
  rw [Bool.not_true, cond_false]
  by_cases hn2 : x.Nodes < 2
  · rw [bif_t (decide_eq_true hn2), wk]
  rw [bif_f (decide_eq_false hn2)]
  obtain ⟨s, F, hmade⟩ := made_eq (L := L) hm (by omega)
  obtain ⟨N, hN⟩ : ∃ N : Nat, x.Nodes = N := ⟨x.Nodes.toNat, by omega⟩
  rw [show x.Nodes.toNat = N by omega] at hmade
  have G : PGeo x N s := ⟨hm, hN, F.ok, F.len⟩
  obtain ⟨n1, n2, l8, l512, s1, s16, sl, hl⟩ := G.bd
  rw [hmade, bindO_s]
  dsimp only
  rw [Bool.not_true, cond_false, show decide (x.Nodes = 0) = false from decide_eq_false (by omega), gd_t (by rfl), gd_t (by rfl), gd_t (by rfl), gd_t (by rfl)]
  obtain ⟨a, ha, ea⟩ := wrapN (y := y) hN n1 n2
  obtain ⟨b, hb, eb⟩ := wrapN (y := z) hN n1 n2
  rw [ea, eb]
  by_cases hab : a = b
  · rw [bif_t (show ((a : Int) == (b : Int)) = true from by rw [hab]; exact beq_self_eq_true _), wk]
  rw [bif_f (show ((a : Int) == (b : Int)) = false from beq_eq_false_iff_ne.2 (by omega)), mount_eq ha n2, bindO_s, pBegin_eq G ha, bindO_s]
  obtain ⟨t, ht, htok⟩ := New_eq (L := L) (x := x) (by omega) (by omega) s16
  rw [ht, bindO_s]
  dsimp only
  rw [show ((0 : Int) != 0) = false from rfl, cond_false, hN, show w64 (4 + (N : Int)) = 4 + N from w64_t (by omega) (by omega), show w64 (4 + (N : Int) - 1) = ((N + 3 : Nat) : Int) from (w64_t (by omega) (by omega)).trans (by omega)]
  have hblank : ∀ k : Nat, 1 ≤ k → (k : Int) < 1 + 2 * (N : Int) + x.Log → s.getD k noS = noS := fun k h1 h2 => F.no k h1 (by show (k : Int) < 1 + 2 * x.Nodes + x.Log; omega)
  obtain ⟨p, hA⟩ := keepA (t := t) (L := L) (by omega) G ha (by omega) hblank
  have hm1 := mayR_no (i := 0) (m := 16 + (a : Int)) (by omega) (by omega) (by omega) (by omega)
  have hm2 := mayR_val (i := 0) (m := 16 + (a : Int)) (c := cN a) (by omega) (by omega) (by omega) (by omega)
  have b1 := (recB_len hm1).1
  have b2 : (recB ⟨0, 16 + (a : Int), 16 + (a : Int), cb a⟩).size ≤ 100 := (recB_len hm2).1
  have G1 := (G.set (1 + (N : Int) + (a : Int)).toNat (b := recB ⟨0, 16 + (a : Int), 0, noS⟩) (by omega)).set (1 + (N : Int) + (a : Int)).toNat (b := recB ⟨0, 16 + (a : Int), 16 + (a : Int), cb a⟩) (by omega)
  have hrunA := run_exact (a := ⟨s, ⟨a, cb a, 0, 0, yAN.z, yAG.z⟩, t, 0⟩) G hA (by omega) (by omega)
  rw [hrunA, bindO_s]
  have own1 : ((s.set (1 + (N : Int) + (a : Int)).toNat (recB ⟨0, 16 + (a : Int), 0, noS⟩)).set (1 + (N : Int) + (a : Int)).toNat (recB ⟨0, 16 + (a : Int), 16 + (a : Int), cb a⟩)).getD (1 + (N : Int) + (a : Int)).toNat noS = recB ⟨0, 16 + (a : Int), 16 + (a : Int), cb a⟩ := get_set (by omega) (by rw [List.length_set]; omega)
  have oth1 : ∀ k : Int, 1 ≤ k → k < 1 + 2 * (N : Int) + x.Log → k ≠ 1 + (N : Int) + a → ((s.set (1 + (N : Int) + (a : Int)).toNat (recB ⟨0, 16 + (a : Int), 0, noS⟩)).set (1 + (N : Int) + (a : Int)).toNat (recB ⟨0, 16 + (a : Int), 16 + (a : Int), cb a⟩)).getD k.toNat noS = noS := fun k h1 h2 h3 => by
    rw [get_ne (by omega) (by omega) (by omega), get_ne (by omega) (by omega) (by omega)]
    exact hblank _ (by omega) (by omega)
  generalize hs1 : (s.set (1 + (N : Int) + (a : Int)).toNat (recB ⟨0, 16 + (a : Int), 0, noS⟩)).set (1 + (N : Int) + (a : Int)).toNat (recB ⟨0, 16 + (a : Int), 16 + (a : Int), cb a⟩) = s1' at *
  have hlen1 : s1'.length = s.length := by rw [← hs1, List.length_set, List.length_set]
  have hT : yBg L x = some (geoOf x).total := by rw [rTotal_eq]; unfold Geo.totalS; rw [if_pos hm]
  have hP : yGt L x a = some (1 + (N : Int) + a) := by
    rw [rPaxos_eq]
    unfold Geo.paxosS
    rw [if_pos ⟨hm, by omega, by show (a : Int) < x.Nodes; omega⟩]
    show some (1 + x.Nodes + (a : Int)) = _
    rw [hN]
  have hSl : ((dvF s1' N).S.length : Int) = (geoOf x).total := by
    show ((s1'.map txV).length : Int) = _
    rw [List.length_map]; exact G1.len
  have hKl : ∀ s, ((dvF s N).Keys.length : Int) = N := fun s => by
    show ((((List.range N).map (keyN N)).map inV).length : Int) = _
    simp only [List.length_map, List.length_range]
  have hS1 : (dvF s1' N).S = s1'.map txV := rfl
  rw [hT, bindO_s]
  dsimp only
  rw [hSl, bif_f (show ((geoOf x).total != (geoOf x).total) = false from bne_self_eq_false _), hKl, bif_f (show ((N : Int) != (N : Int)) = false from bne_self_eq_false _), hP, bindO_s]
  have hi : (1 + (N : Int) + (a : Int)).toNat < s1'.length := by omega
  have hcell : aS (s1'.map txV) (1 + (N : Int) + (a : Int)).toNat 0 = recB ⟨0, 16 + (a : Int), 16 + (a : Int), cb a⟩ := by
    rw [aS_tx hi, ← own1, List.getD_eq_getElem?_getD, List.getElem?_eq_getElem hi]; rfl
  rw [hS1, gI_tx (by omega) (by omega), hcell, r8Read hm2 (by omega), bindO_s]
  dsimp only
  rw [show ((0 : Int) != 0) = false from rfl, cond_false, cond_false, cond_false, mount_eq ha n2, bindO_s, beq_self_eq_true, Bool.not_true, cond_false, bif_f (show (16 + (a : Int) != 16 + (a : Int)) = false from bne_self_eq_false _), mount_eq hb n2, bindO_s, pBegin_eq G1 hb, bindO_s]
  dsimp only
  rw [show ((0 : Int) != 0) = false from rfl, cond_false, show w64 (4 * (N : Int)) = 4 * N from w64_t (by omega) (by omega), show w64 (4 * (N : Int) + 10) = 4 * N + 10 from w64_t (by omega) (by omega), show w64 (2 * (4 * (N : Int) + 10)) = 2 * (4 * N + 10) from w64_t (by omega) (by omega)]
  obtain ⟨k, p2, c, hk, hB, hD, G2, g0, g1, g2⟩ := keepB (L := L) (t := t) (by omega) G1 ha hb hab htok (fun m h1 h2 => by
    by_cases hma : m = a
    · subst hma
      rw [own1]
      refine .inr ⟨?_, ?_⟩
      · unfold RA; rw [if_pos rfl]; exact hm2
      · unfold RA; rw [if_pos rfl]
    · rw [oth1 _ (by omega) (by omega) (by omega)]
      exact .inl ⟨rfl, if_neg hma⟩) (oth1 _ (by omega) (by omega) (by omega)) (fun k h1 h2 => oth1 _ (by omega) (by omega) (by omega))
  have hrunB := run_over (most := 2 * (4 * (N : Int) + 10)) (a := ⟨s1', ⟨b, cb b, 0, 0, yAN.z, yAG.z⟩, t, 0⟩) G1 hB hD (by omega) (by omega) (by omega)
  rw [hrunB, bindO_s]
  have hlog := r12Log (L := L) (s := c.s) (cs := [cN a, cN b]) (by omega) G2 (by show (2 : Int) ≤ _; omega) (fun i hi => by
    match i, hi with
    | 0, _ =>
      have := g0
      rw [show (1 + 2 * (N : Int) + 0).toNat = 1 + 2 * N + 0 by omega] at this
      exact this
    | 1, _ =>
      have := g1
      rw [show (1 + 2 * (N : Int) + 1).toNat = 1 + 2 * N + 1 by omega] at this
      exact this) (fun _ => by
      have := g2
      rw [show (1 + 2 * (N : Int) + 2).toNat = 1 + 2 * N + 2 by omega] at this
      exact this) (fun c hc => by
      simp only [List.mem_cons, List.not_mem_nil, or_false] at hc
      rcases hc with rfl | rfl
      · exact rRead_enc0 hL10 (cN_may (by omega)) (.inl rfl)
      · exact rRead_enc0 hL10 (cN_may (by omega)) (.inl rfl))
  have hl2 : ((([cN a, cN b].map yAF.cs).length : Nat) : Int) = 2 := rfl
  have hK : (dvF c.s N).Keys = ((List.range N).map (keyN N)).map inV := rfl
  have kk : ∀ n : Nat, n < N → keyN N n = 17 * (n : Int) + 16 := fun n h => if_pos h
  rw [hlog, bindO_s]
  dsimp only
  rw [show ((0 : Int) == 0) = true from rfl, cond_true, cond_true, cond_true, hKl, beq_self_eq_true, cond_true, hl2, beq_self_eq_true, cond_true, gd_t (by rfl), gd_t (by rfl), hK, keys_gI (by omega) (by omega), Int.toNat_natCast, keys_at ha, kk a ha,
    show aI ([cN a, cN b].map yAF.cs) 0 1 = 17 * (a : Int) + 16 from rfl, beq_self_eq_true, cond_true, gd_t (by rfl), gd_t (by rfl), keys_gI (by omega) (by omega), Int.toNat_natCast, keys_at hb, kk b hb,
    show aI ([cN a, cN b].map yAF.cs) 1 1 = 17 * (b : Int) + 16 from rfl, beq_self_eq_true, cond_true, wk]
end Go.Proofs.YtakljpcmbpaeaaaGreat

namespace Go.Proofs.YtakljpcmbpaeaaaGreat
open Go.RowKit

def allS (w : World) : Stab := fun g _ => g < w.heap.size
end Go.Proofs.YtakljpcmbpaeaaaGreat
