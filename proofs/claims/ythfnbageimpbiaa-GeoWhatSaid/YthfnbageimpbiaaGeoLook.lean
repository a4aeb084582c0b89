/- The walks of geo: Lease, Paxos, Log, Head, Data, Total, Rest, Journal. -/
import Derived.Test.YthfnbageimpbiaaHeld
import Derived.StillTailTactics
import Derived.IntWalk
namespace Go.Proofs.Ythfnbageimpbiaa
open Go.RowKit

theorem findM {g : Geo} (hm : g.may = true) (k : Int) : findR g.rgsM k = findR g.rgs k := by unfold Geo.rgsM; rw [if_pos hm]
theorem findN {g : Geo} (hm : ¬ g.may = true) (k : Int) : findR g.rgsM k = noRg := by unfold Geo.rgsM; rw [if_neg hm]; rfl
theorem of_no (i k : Int) : ofS noRg i k = -1 := by
  unfold ofS noRg
  dsimp only
  rw [if_neg (by simp only [Int.zero_ediv]; omega)]
theorem ofS_if {r : Rg} {i k : Int} {c : Prop} [Decidable c] {z : Int} (hc : (0 ≤ i ∧ i < r.many / r.per ∧ 0 ≤ k ∧ k < r.per) ↔ c) (hz : c → r.first + (i * r.per + k) = z) : ofS r i k = if c then z else -1 := by
  unfold ofS
  by_cases h : c
  · rw [if_pos h, if_pos (hc.2 h), hz h]
  · rw [if_neg h, if_neg (fun x => h (hc.1 x))]
theorem of_lease (g : Geo) (i : Int) : ofS (findR g.rgsM 2) i 0 = g.leaseS i := by
  unfold Geo.leaseS
  by_cases hm : g.may = true
  · rw [findM hm, show findR g.rgs 2 = ⟨1, g.nodes, 2, 1⟩ from rfl]
    exact ofS_if (by simp only [Int.ediv_one, hm, true_and]; omega) (fun _ => by dsimp only; omega)
  · rw [findN hm, of_no, if_neg (fun x => hm x.1)]
theorem of_paxos (g : Geo) (i : Int) : ofS (findR g.rgsM 3) i 0 = g.paxosS i := by
  unfold Geo.paxosS
  by_cases hm : g.may = true
  · rw [findM hm, show findR g.rgs 3 = ⟨1 + g.nodes, g.nodes, 3, 1⟩ from rfl]
    exact ofS_if (by simp only [Int.ediv_one, hm, true_and]; omega) (fun _ => by dsimp only; omega)
  · rw [findN hm, of_no, if_neg (fun x => hm x.1)]
theorem of_log (g : Geo) (i : Int) : ofS (findR g.rgsM 4) i 0 = g.logS i := by
  unfold Geo.logS
  by_cases hm : g.may = true
  · rw [findM hm, show findR g.rgs 4 = ⟨1 + g.nodes + g.nodes, g.log, 4, 1⟩ from rfl]
    exact ofS_if (by simp only [Int.ediv_one, hm, true_and]; omega) (fun _ => by dsimp only; omega)
  · rw [findN hm, of_no, if_neg (fun x => hm x.1)]
theorem of_head (g : Geo) (i : Int) : ofS (findR g.rgsM 6) i 0 = g.headS i := by
  unfold Geo.headS
  by_cases hm : g.may = true
  · have hk := Geo.may_ok hm
    have h1 := hk.j1; have h2 := hk.p1
    rw [findM hm, show findR g.rgs 6 = ⟨1 + g.nodes + g.nodes + g.log, g.slots * (1 + g.journal), 6, 1 + g.journal⟩ from rfl]
    exact ofS_if (by simp only [hm, true_and]; rw [Int.mul_ediv_cancel _ (by omega)]; omega) (fun _ => by dsimp only; omega)
  · rw [findN hm, of_no, if_neg (fun x => hm x.1)]
theorem of_journal {g : Geo} (hm : g.may = true) (i l : Int) (hi : 0 ≤ i ∧ i < g.slots) (hl : 0 ≤ l) : ofS (findR g.rgsM 6) i (1 + l % g.journal) = g.journalS i l := by
  unfold Geo.journalS
  have hk := Geo.may_ok hm
  have h1 := hk.j1; have h2 := hk.p1
  have h3 := Int.emod_nonneg l (b := g.journal) (by omega)
  have h4 := Int.emod_lt_of_pos l (b := g.journal) (by omega)
  rw [findM hm, show findR g.rgs 6 = ⟨1 + g.nodes + g.nodes + g.log, g.slots * (1 + g.journal), 6, 1 + g.journal⟩ from rfl]
  exact ofS_if (by simp only [hm, true_and]; rw [Int.mul_ediv_cancel _ (by omega)]; omega) (fun _ => by dsimp only; omega)
theorem of_data (g : Geo) (i k : Int) : ofS (findR g.rgsM 7) i k = g.dataS i k := by
  unfold Geo.dataS
  by_cases hm : g.may = true
  · have hk := Geo.may_ok hm
    have h2 := hk.p1
    rw [findM hm, show findR g.rgs 7 = ⟨1 + g.nodes + g.nodes + g.log + g.slots * (1 + g.journal), g.blocks * g.per, 7, g.per⟩ from rfl]
    exact ofS_if (by simp only [hm, true_and]; rw [Int.mul_ediv_cancel _ (by omega)]) (fun _ => by dsimp only; omega)
  · rw [findN hm, of_no, if_neg (fun x => hm x.1)]
theorem of_total (g : Geo) : (findR g.rgsM 7).first + (findR g.rgsM 7).many = g.totalS := by
  unfold Geo.totalS
  by_cases hm : g.may = true
  · rw [findM hm, if_pos hm, show findR g.rgs 7 = ⟨1 + g.nodes + g.nodes + g.log + g.slots * (1 + g.journal), g.blocks * g.per, 7, g.per⟩ from rfl]
    unfold Geo.total
    dsimp only
    omega
  · rw [findN hm, if_neg hm]; rfl


set_option maxHeartbeats 400000 in
theorem Lease_any (g : Geo) (i : Int) (w : World) (hw1 : -9223372036854775808 ≤ g.wait) (hw2 : g.wait ≤ 9223372036854775807) :
    Calls Try.prog 18 #[g.v, .int .i64 i] w fun e w' => e = .returned (.int .i64 (g.leaseS i)) ∧ Below w.heap.size w w' := by
  have h := fun w => of_any g 2 i 0 w hw1 hw2
  rw [of_lease] at h
  generalize g.leaseS i = z at *
  dsimp only [Geo.v] at *
  have H := Lib.hid h; clear h
  go_enter Try.func18, Try.ntmps18
  go_wp2_with fail
  refine (H.out _).mono ?_
  rintro e w1 ⟨rfl, hB⟩
  go_wp2_with fail
  go_ret
  exact ⟨rfl, below_step ((Below.refl _ _).alloc (Nat.le_refl _) _) hB (by simp)⟩

set_option maxHeartbeats 400000 in
theorem Paxos_any (g : Geo) (i : Int) (w : World) (hw1 : -9223372036854775808 ≤ g.wait) (hw2 : g.wait ≤ 9223372036854775807) :
    Calls Try.prog 24 #[g.v, .int .i64 i] w fun e w' => e = .returned (.int .i64 (g.paxosS i)) ∧ Below w.heap.size w w' := by
  have h := fun w => of_any g 3 i 0 w hw1 hw2
  rw [of_paxos] at h
  generalize g.paxosS i = z at *
  dsimp only [Geo.v] at *
  have H := Lib.hid h; clear h
  go_enter Try.func24, Try.ntmps24
  go_wp2_with fail
  refine (H.out _).mono ?_
  rintro e w1 ⟨rfl, hB⟩
  go_wp2_with fail
  go_ret
  exact ⟨rfl, below_step ((Below.refl _ _).alloc (Nat.le_refl _) _) hB (by simp)⟩

set_option maxHeartbeats 400000 in
theorem Log_any (g : Geo) (i : Int) (w : World) (hw1 : -9223372036854775808 ≤ g.wait) (hw2 : g.wait ≤ 9223372036854775807) :
    Calls Try.prog 26 #[g.v, .int .i64 i] w fun e w' => e = .returned (.int .i64 (g.logS i)) ∧ Below w.heap.size w w' := by
  have h := fun w => of_any g 4 i 0 w hw1 hw2
  rw [of_log] at h
  generalize g.logS i = z at *
  dsimp only [Geo.v] at *
  have H := Lib.hid h; clear h
  go_enter Try.func26, Try.ntmps26
  go_wp2_with fail
  refine (H.out _).mono ?_
  rintro e w1 ⟨rfl, hB⟩
  go_wp2_with fail
  go_ret
  exact ⟨rfl, below_step ((Below.refl _ _).alloc (Nat.le_refl _) _) hB (by simp)⟩

set_option maxHeartbeats 400000 in
theorem Head_any (g : Geo) (i : Int) (w : World) (hw1 : -9223372036854775808 ≤ g.wait) (hw2 : g.wait ≤ 9223372036854775807) :
    Calls Try.prog 16 #[g.v, .int .i64 i] w fun e w' => e = .returned (.int .i64 (g.headS i)) ∧ Below w.heap.size w w' := by
  have h := fun w => of_any g 6 i 0 w hw1 hw2
  rw [of_head] at h
  generalize g.headS i = z at *
  dsimp only [Geo.v] at *
  have H := Lib.hid h; clear h
  go_enter Try.func16, Try.ntmps16
  go_wp2_with fail
  refine (H.out _).mono ?_
  rintro e w1 ⟨rfl, hB⟩
  go_wp2_with fail
  go_ret
  exact ⟨rfl, below_step ((Below.refl _ _).alloc (Nat.le_refl _) _) hB (by simp)⟩

set_option maxHeartbeats 400000 in
theorem Data_any (g : Geo) (i k : Int) (w : World) (hw1 : -9223372036854775808 ≤ g.wait) (hw2 : g.wait ≤ 9223372036854775807) :
    Calls Try.prog 17 #[g.v, .int .i64 i, .int .i64 k] w fun e w' => e = .returned (.int .i64 (g.dataS i k)) ∧ Below w.heap.size w w' := by
  have h := fun w => of_any g 7 i k w hw1 hw2
  rw [of_data] at h
  generalize g.dataS i k = z at *
  dsimp only [Geo.v] at *
  have H := Lib.hid h; clear h
  go_enter Try.func17, Try.ntmps17
  go_wp2_with fail
  refine (H.out _).mono ?_
  rintro e w1 ⟨rfl, hB⟩
  go_wp2_with fail
  go_ret
  exact ⟨rfl, below_step ((Below.refl _ _).alloc (Nat.le_refl _) _) hB (by simp)⟩

set_option maxHeartbeats 400000 in
theorem Total_any (g : Geo) (w : World) (hw1 : -9223372036854775808 ≤ g.wait) (hw2 : g.wait ≤ 9223372036854775807) :
    Calls Try.prog 13 #[g.v] w fun e w' => e = .returned (.int .i64 g.totalS) ∧ Below w.heap.size w w' := by
  have h := fun w => find_any g 7 w hw1 hw2
  have hbd := find_bd g 7
  rw [← of_total]
  generalize findR g.rgsM 7 = r at *
  obtain ⟨rf, rm, rk, rp⟩ := r
  obtain ⟨b1, b2, b3, b4, -, -⟩ := hbd
  dsimp only [Geo.v, rgV] at *
  have H := Lib.hid h; clear h
  have hfl : ∀ w, (Instr.field 44 (.agg #[.int .i64 rf, .int .i64 rm, .int .i8 rk, .int .i64 rp]) 0).run Try.prog w = .ok (.agg #[.int .i64 rf, .int .i64 rm]) w := fun _ => by kernel_rfl
  go_enter Try.func13, Try.ntmps13
  go_wp2_with fail
  refine (H.out _).mono ?_
  rintro e w1 ⟨rfl, hB⟩
  go_wp2_with fail
  refine (end_any rf rm _ (by omega) (by omega) (by omega) (by omega)).mono ?_
  rintro e w2 ⟨rfl, hB2⟩
  go_wp2_with fail
  go_ret
  exact ⟨rfl, below_step (below_step ((Below.refl _ _).alloc (Nat.le_refl _) _) hB (by simp)) hB2 (by have := hB.size; simp at this; omega)⟩

def Geo.restS (g : Geo) : Int := if g.may = true then 4 * g.slots else 0
set_option maxHeartbeats 400000 in
theorem Rest_any (g : Geo) (w : World) (hw1 : -9223372036854775808 ≤ g.wait) (hw2 : g.wait ≤ 9223372036854775807) :
    Calls Try.prog 21 #[g.v] w fun e w' => e = .returned (.int .i64 g.restS) ∧ Below w.heap.size w w' := by
  have h := fun w => May_any g w hw1 hw2
  by_cases hm : g.may = true
  · have hr : g.restS = 4 * g.slots := by unfold Geo.restS; rw [if_pos hm]
    have hk := Geo.may_ok hm
    have h1 := hk.s1; have h2 := hk.s2; have h3 := hk.n2
    rw [hr]
    rw [hm] at h
    clear hr hm hk
    dsimp only [Geo.v] at *
    have H := Lib.hid h; clear h
    go_enter Try.func21, Try.ntmps21
    go_wp2_with fail
    refine (H.out _).mono ?_
    rintro e w1 ⟨rfl, hB⟩
    have hb := (Blk.new w 23 #[.int .i64 g.nodes, .int .i64 g.slots, .int .i64 g.blocks, .int .i64 g.per, .int .i64 g.journal, .int .i64 g.log, .int .i64 g.lease, .int .i64 g.wait]).below hB (by simp)
    have hc := hb.cell 1
    dsimp at hc
    clear hb
    go_wp2_with fail
    go_ret
    exact ⟨rfl, below_step ((Below.refl _ _).alloc (Nat.le_refl _) _) hB (by simp)⟩
  · have hr : g.restS = 0 := by unfold Geo.restS; rw [if_neg hm]
    rw [hr]
    have hm' : g.may = false := by simpa using hm
    rw [hm'] at h
    clear hr hm hm'
    dsimp only [Geo.v] at *
    have H := Lib.hid h; clear h
    go_enter Try.func21, Try.ntmps21
    go_wp2_with fail
    refine (H.out _).mono ?_
    rintro e w1 ⟨rfl, hB⟩
    go_wp2_with fail
    go_ret
    exact ⟨rfl, below_step ((Below.refl _ _).alloc (Nat.le_refl _) _) hB (by simp)⟩

theorem head_may {g : Geo} {i : Int} (h : 0 ≤ g.headS i) : g.may = true ∧ 0 ≤ i ∧ i < g.slots := by
  unfold Geo.headS at h
  split at h
  · assumption
  · omega
theorem head_neg {g : Geo} {i : Int} (h : g.headS i < 0) (l : Int) : g.journalS i l = -1 := by
  unfold Geo.journalS
  rw [if_neg]
  rintro ⟨h1, h2, h3, -⟩
  unfold Geo.headS at h
  rw [if_pos ⟨h1, h2, h3⟩] at h
  have hk := Geo.may_ok h1
  have := hk.n1; have := hk.l1; have := hk.s1
  have : 0 ≤ i * (1 + g.journal) := Int.mul_nonneg h2 (by have := hk.j1; have := hk.p1; omega)
  omega
theorem journal_neg {g : Geo} {l : Int} (h : l < 0) (i : Int) : g.journalS i l = -1 := by
  unfold Geo.journalS
  rw [if_neg]
  rintro ⟨-, -, -, h4⟩
  omega
set_option maxHeartbeats 1000000 in
theorem Journal_any (g : Geo) (i l : Int) (w : World) (hl : l ≤ 9223372036854775807) (hw1 : -9223372036854775808 ≤ g.wait) (hw2 : g.wait ≤ 9223372036854775807) :
    Calls Try.prog 15 #[g.v, .int .i64 i, .int .i64 l] w fun e w' => e = .returned (.int .i64 (g.journalS i l)) ∧ Below w.heap.size w w' := by
  have hh := fun w => Head_any g i w hw1 hw2
  by_cases hl0 : l < 0
  · rw [journal_neg hl0]
    clear hh
    go_enter Try.func15, Try.ntmps15
    go_wp2_with fail
    go_ret
    exact ⟨rfl, (Below.refl _ _).alloc (Nat.le_refl _) _⟩
  · have hl1 : 0 ≤ l := by omega
    by_cases hd : g.headS i < 0
    · rw [head_neg hd]
      generalize g.headS i = z at *
      dsimp only [Geo.v] at *
      have H := Lib.hid hh; clear hh
      go_enter Try.func15, Try.ntmps15
      go_wp2_with fail
      refine (H.out _).mono ?_
      rintro e w1 ⟨rfl, hB⟩
      go_wp2_with fail
      go_ret
      exact ⟨rfl, below_step ((Below.refl _ _).alloc (Nat.le_refl _) _) hB (by simp)⟩
    · have hd0 : 0 ≤ g.headS i := by omega
      obtain ⟨hm, hi1, hi2⟩ := head_may hd0
      have hk := Geo.may_ok hm
      have h1 := hk.j1; have h2 := hk.p1; have h3 := hk.j2
      have ho := fun w => of_any g 6 i (1 + l % g.journal) w hw1 hw2
      rw [of_journal hm i l ⟨hi1, hi2⟩ hl1] at ho
      generalize g.journalS i l = zz at *
      generalize g.headS i = z at *
      have hr0 := Int.emod_nonneg l (b := g.journal) (by omega)
      have hr1 := Int.emod_lt_of_pos l (b := g.journal) (by omega)
      dsimp only [Geo.v] at *
      clear hm hk hd
      have H := Lib.hid hh; clear hh
      have HO := Lib.hid ho; clear ho
      go_enter Try.func15, Try.ntmps15
      go_wp2_with fail
      refine (H.out _).mono ?_
      rintro e w1 ⟨rfl, hB⟩
      have hG := geoAt_keep (geoAt_new g w) hB
      clear hB
      have HG := Lib.hid hG
      have hj0 : ¬ g.journal = 0 := by omega
      have hj1 : l.tmod g.journal = l % g.journal := Int.tmod_eq_emod_of_nonneg hl1
      have hj2 : IntKind.i64.wrap (l % g.journal) = l % g.journal := IntWalk.i64_in _ (by omega)
      have hj3 : IntKind.i64.wrap (1 + l % g.journal) = 1 + l % g.journal := IntWalk.i64_in _ (by omega)
      go_wp2_with fail
      go_region_held3 (GeoAt g w.heap.size w) (first | exact geoAt_drew HG.out | exact geoAt_keep (by assumption) (by assumption)) (first | (go_at_call 37; refine (HO.out _).mono ?_; rintro e w3 ⟨rfl, hB3⟩))
      have hG3 : GeoAt g w.heap.size w w3 := by assumption
      have HG3 := Lib.hid hG3; clear hG3 hj1 hj2 hj3 hj0
      go_wp2_with fail
      go_ret
      exact ⟨rfl, HG3.out.2.2.2.2.2.2.2.2.2⟩
end Go.Proofs.Ythfnbageimpbiaa
