/- The walks of the reference of layer 4: in, May, Rest, Lease, Paxos, Log, Head, Data, Total, Journal. -/
import Derived.Test.YthfnbageimpbiaaGeoLook
namespace Go.Proofs.Ythfnbageimpbiaa
open Go.RowKit

set_option maxHeartbeats 400000 in
theorem in_b (n a b : Int) (z : Bool) (w : World) (hz : z = decide (a ≤ n ∧ n ≤ b)) :
    Calls Try.prog 34 #[.int .i64 n, .int .i64 a, .int .i64 b] w fun e w' => e = .returned (.bool z) ∧ w = w' := by
  have HZ := Lib.hid hz; clear hz
  by_cases h1 : a ≤ n
  · by_cases h2 : n ≤ b
    · have hz : z = true := by rw [HZ.out]; exact decide_eq_true ⟨h1, h2⟩
      subst hz
      go_enter Try.func34, Try.ntmps34
      go_wp2
      go_ret
      exact ⟨rfl, rfl⟩
    · have hz : z = false := by rw [HZ.out]; exact decide_eq_false (fun h => h2 h.2)
      subst hz
      go_enter Try.func34, Try.ntmps34
      go_wp2
      go_ret
      exact ⟨by simp, rfl⟩
  · have hz : z = false := by rw [HZ.out]; exact decide_eq_false (fun h => h1 h.1)
    subst hz
    go_enter Try.func34, Try.ntmps34
    go_wp2
    go_ret
    exact ⟨rfl, rfl⟩

set_option maxHeartbeats 2000000 in
set_option maxRecDepth 100000 in
theorem RMay_any (g : Geo) (w : World) :
    Calls Try.prog 12 #[g.v] w fun e w' => e = .returned (.bool g.may) ∧ Below w.heap.size w w' := by
  obtain ⟨z, hz⟩ : ∃ z, z = g.may := ⟨_, rfl⟩
  rw [← hz]
  unfold Geo.may at hz
  have HZ := Lib.hid hz; clear hz
  go_enter Try.func12, Try.ntmps12
  by_cases c0 : 1 ≤ g.nodes ∧ g.nodes ≤ 16
  case neg =>
    have hz2 : z = false := by rw [HZ.out]; exact decide_eq_false (fun h => by omega)
    subst hz2
    go_wp2_with fail
    refine (in_b g.nodes 1 16 false _ (decide_eq_false c0).symm).mono ?_
    rintro e w' ⟨rfl, rfl⟩
    clear c0
    go_wp2_with fail
    go_ret
    exact ⟨rfl, (Below.refl _ _).alloc (Nat.le_refl _) _⟩
  go_wp2_with fail
  refine (in_b g.nodes 1 16 true _ (decide_eq_true c0).symm).mono ?_
  rintro e w' ⟨rfl, rfl⟩
  obtain ⟨c0a, c0b⟩ := c0
  by_cases c1 : 1 ≤ g.slots ∧ g.slots ≤ g.nodes
  case neg =>
    have hz2 : z = false := by rw [HZ.out]; exact decide_eq_false (fun h => by omega)
    subst hz2
    go_wp2_with fail
    refine (in_b g.slots 1 g.nodes false _ (decide_eq_false c1).symm).mono ?_
    rintro e w' ⟨rfl, rfl⟩
    clear c1
    go_wp2_with fail
    go_ret
    exact ⟨rfl, (Below.refl _ _).alloc (Nat.le_refl _) _⟩
  go_wp2_with fail
  refine (in_b g.slots 1 g.nodes true _ (decide_eq_true c1).symm).mono ?_
  rintro e w' ⟨rfl, rfl⟩
  obtain ⟨c1a, c1b⟩ := c1
  by_cases c2 : 1 ≤ g.blocks ∧ g.blocks ≤ 64
  case neg =>
    have hz2 : z = false := by rw [HZ.out]; exact decide_eq_false (fun h => by omega)
    subst hz2
    go_wp2_with fail
    refine (in_b g.blocks 1 64 false _ (decide_eq_false c2).symm).mono ?_
    rintro e w' ⟨rfl, rfl⟩
    clear c2
    go_wp2_with fail
    go_ret
    exact ⟨rfl, (Below.refl _ _).alloc (Nat.le_refl _) _⟩
  go_wp2_with fail
  refine (in_b g.blocks 1 64 true _ (decide_eq_true c2).symm).mono ?_
  rintro e w' ⟨rfl, rfl⟩
  obtain ⟨c2a, c2b⟩ := c2
  by_cases c3 : 1 ≤ g.per ∧ g.per ≤ 8
  case neg =>
    have hz2 : z = false := by rw [HZ.out]; exact decide_eq_false (fun h => by omega)
    subst hz2
    go_wp2_with fail
    refine (in_b g.per 1 8 false _ (decide_eq_false c3).symm).mono ?_
    rintro e w' ⟨rfl, rfl⟩
    clear c3
    go_wp2_with fail
    go_ret
    exact ⟨rfl, (Below.refl _ _).alloc (Nat.le_refl _) _⟩
  go_wp2_with fail
  refine (in_b g.per 1 8 true _ (decide_eq_true c3).symm).mono ?_
  rintro e w' ⟨rfl, rfl⟩
  obtain ⟨c3a, c3b⟩ := c3
  by_cases c4 : (g.per + 2) ≤ g.journal ∧ g.journal ≤ 64
  case neg =>
    have hz2 : z = false := by rw [HZ.out]; exact decide_eq_false (fun h => by omega)
    subst hz2
    go_wp2_with fail
    refine (in_b g.journal (g.per + 2) 64 false _ (decide_eq_false c4).symm).mono ?_
    rintro e w' ⟨rfl, rfl⟩
    clear c4
    go_wp2_with fail
    go_ret
    exact ⟨rfl, (Below.refl _ _).alloc (Nat.le_refl _) _⟩
  go_wp2_with fail
  refine (in_b g.journal (g.per + 2) 64 true _ (decide_eq_true c4).symm).mono ?_
  rintro e w' ⟨rfl, rfl⟩
  obtain ⟨c4a, c4b⟩ := c4
  by_cases c5 : (8 * g.slots) ≤ g.log ∧ g.log ≤ 512
  case neg =>
    have hz2 : z = false := by rw [HZ.out]; exact decide_eq_false (fun h => by omega)
    subst hz2
    go_wp2_with fail
    refine (in_b g.log (8 * g.slots) 512 false _ (decide_eq_false c5).symm).mono ?_
    rintro e w' ⟨rfl, rfl⟩
    clear c5
    go_wp2_with fail
    go_ret
    exact ⟨rfl, (Below.refl _ _).alloc (Nat.le_refl _) _⟩
  go_wp2_with fail
  refine (in_b g.log (8 * g.slots) 512 true _ (decide_eq_true c5).symm).mono ?_
  rintro e w' ⟨rfl, rfl⟩
  obtain ⟨c5a, c5b⟩ := c5
  by_cases d0 : 1 ≤ g.lease
  case neg =>
    have hz2 : z = false := by rw [HZ.out]; exact decide_eq_false (fun h => by omega)
    subst hz2
    have e0 : g.lease < 1 := by omega
    have f0 : decide (1 ≤ g.lease) = false := by simpa using d0
    clear d0
    go_wp2_with fail
    go_ret
    exact ⟨rfl, (Below.refl _ _).alloc (Nat.le_refl _) _⟩
  by_cases d1 : g.lease < g.wait
  case neg =>
    have hz2 : z = false := by rw [HZ.out]; exact decide_eq_false (fun h => by omega)
    subst hz2
    have e1 : g.wait ≤ g.lease := by omega
    have f1 : decide (g.lease < g.wait) = false := by simpa using d1
    clear d1
    go_wp2_with fail
    go_ret
    exact ⟨rfl, (Below.refl _ _).alloc (Nat.le_refl _) _⟩
  by_cases d2 : g.wait ≤ 1048576
  case neg =>
    have hz2 : z = false := by rw [HZ.out]; exact decide_eq_false (fun h => by omega)
    subst hz2
    have e2 : 1048576 < g.wait := by omega
    have f2 : decide (g.wait ≤ 1048576) = false := by simpa using d2
    clear d2
    go_wp2_with fail
    go_ret
    exact ⟨by simp, (Below.refl _ _).alloc (Nat.le_refl _) _⟩
  have hz2 : z = true := by rw [HZ.out]; exact decide_eq_true (by omega)
  subst hz2
  have f0 : decide (1 ≤ g.lease) = true := by simpa using d0
  have f1 : decide (g.lease < g.wait) = true := by simpa using d1
  go_wp2_with fail
  go_ret
  exact ⟨by simp, (Below.refl _ _).alloc (Nat.le_refl _) _⟩

set_option maxHeartbeats 400000 in
theorem RRest_any (g : Geo) (w : World) :
    Calls Try.prog 22 #[g.v] w fun e w' => e = .returned (.int .i64 g.restS) ∧ Below w.heap.size w w' := by
  have h := fun w => RMay_any g w
  by_cases hm : g.may = true
  · have hr : g.restS = 4 * g.slots := by unfold Geo.restS; rw [if_pos hm]
    have hk := Geo.may_ok hm
    have h1 := hk.s1; have h2 := hk.s2; have h3 := hk.n2
    rw [hr]
    rw [hm] at h
    clear hr hm hk
    dsimp only [Geo.v] at *
    have H := Lib.hid h; clear h
    go_enter Try.func22, Try.ntmps22
    go_wp2_with fail
    refine (H.out _).mono ?_
    rintro e w1 ⟨rfl, hB⟩
    have hG := geoAt_keep (geoAt_new g w) hB
    clear hB
    go_wp2_with fail
    go_ret
    exact ⟨rfl, hG.2.2.2.2.2.2.2.2.2⟩
  · have hr : g.restS = 0 := by unfold Geo.restS; rw [if_neg hm]
    rw [hr]
    have hm' : g.may = false := by simpa using hm
    rw [hm'] at h
    clear hr hm hm'
    dsimp only [Geo.v] at *
    have H := Lib.hid h; clear h
    go_enter Try.func22, Try.ntmps22
    go_wp2_with fail
    refine (H.out _).mono ?_
    rintro e w1 ⟨rfl, hB⟩
    go_wp2_with fail
    go_ret
    exact ⟨rfl, below_step ((Below.refl _ _).alloc (Nat.le_refl _) _) hB (by simp)⟩

set_option maxHeartbeats 1000000 in
theorem RLease_any (g : Geo) (i : Int) (w : World) :
    Calls Try.prog 23 #[g.v, .int .i64 i] w fun e w' => e = .returned (.int .i64 (g.leaseS i)) ∧ Below w.heap.size w w' := by
  have h := fun w => RMay_any g w
  by_cases hm : g.may = true
  · obtain ⟨k1, k2, k3, k4, k5, k6, k7, k8, k9, k10, k11, k12, k13, k14, k15⟩ := Geo.may_ok hm
    by_cases hi : 0 ≤ i ∧ i < g.nodes
    · have hr : g.leaseS i = 1 + i := by unfold Geo.leaseS; rw [if_pos ⟨hm, hi⟩]
      rw [hr]
      rw [hm] at h
      obtain ⟨i1, i2⟩ := hi
      clear hr hm
      dsimp only [Geo.v] at *
      have H := Lib.hid h; clear h
      go_enter Try.func23, Try.ntmps23
      go_wp2_with fail
      refine (H.out _).mono ?_
      rintro e w1 ⟨rfl, hB⟩
      have hG := geoAt_keep (geoAt_new g w) hB
      clear hB
      go_wp2_with fail
      refine (in_b i 0 (g.nodes - 1) true _ (decide_eq_true ⟨by omega, by omega⟩).symm).mono ?_
      rintro e w' ⟨rfl, rfl⟩
      go_wp2_with fail
      go_ret
      exact ⟨rfl, hG.2.2.2.2.2.2.2.2.2⟩
    · have hr : g.leaseS i = -1 := by unfold Geo.leaseS; rw [if_neg (fun x => hi x.2)]
      rw [hr]
      rw [hm] at h
      have HI := Lib.hid hi
      clear hr hm hi
      dsimp only [Geo.v] at *
      have H := Lib.hid h; clear h
      go_enter Try.func23, Try.ntmps23
      go_wp2_with fail
      refine (H.out _).mono ?_
      rintro e w1 ⟨rfl, hB⟩
      have hG := geoAt_keep (geoAt_new g w) hB
      clear hB
      go_wp2_with fail
      refine (in_b i 0 (g.nodes - 1) false _ (decide_eq_false (fun x => HI.out (by omega))).symm).mono ?_
      rintro e w' ⟨rfl, rfl⟩
      go_wp2_with fail
      go_ret
      exact ⟨rfl, hG.2.2.2.2.2.2.2.2.2⟩
  · have hr : g.leaseS i = -1 := by unfold Geo.leaseS; rw [if_neg (fun x => hm x.1)]
    rw [hr]
    have hm' : g.may = false := by simpa using hm
    rw [hm'] at h
    clear hr hm hm'
    dsimp only [Geo.v] at *
    have H := Lib.hid h; clear h
    go_enter Try.func23, Try.ntmps23
    go_wp2_with fail
    refine (H.out _).mono ?_
    rintro e w1 ⟨rfl, hB⟩
    go_wp2_with fail
    go_ret
    exact ⟨rfl, below_step ((Below.refl _ _).alloc (Nat.le_refl _) _) hB (by simp)⟩

set_option maxHeartbeats 1000000 in
theorem RPaxos_any (g : Geo) (i : Int) (w : World) :
    Calls Try.prog 25 #[g.v, .int .i64 i] w fun e w' => e = .returned (.int .i64 (g.paxosS i)) ∧ Below w.heap.size w w' := by
  have h := fun w => RMay_any g w
  by_cases hm : g.may = true
  · obtain ⟨k1, k2, k3, k4, k5, k6, k7, k8, k9, k10, k11, k12, k13, k14, k15⟩ := Geo.may_ok hm
    by_cases hi : 0 ≤ i ∧ i < g.nodes
    · have hr : g.paxosS i = 1 + g.nodes + i := by unfold Geo.paxosS; rw [if_pos ⟨hm, hi⟩]
      rw [hr]
      rw [hm] at h
      obtain ⟨i1, i2⟩ := hi
      clear hr hm
      dsimp only [Geo.v] at *
      have H := Lib.hid h; clear h
      go_enter Try.func25, Try.ntmps25
      go_wp2_with fail
      refine (H.out _).mono ?_
      rintro e w1 ⟨rfl, hB⟩
      have hG := geoAt_keep (geoAt_new g w) hB
      clear hB
      go_wp2_with fail
      refine (in_b i 0 (g.nodes - 1) true _ (decide_eq_true ⟨by omega, by omega⟩).symm).mono ?_
      rintro e w' ⟨rfl, rfl⟩
      go_wp2_with fail
      go_ret
      exact ⟨rfl, hG.2.2.2.2.2.2.2.2.2⟩
    · have hr : g.paxosS i = -1 := by unfold Geo.paxosS; rw [if_neg (fun x => hi x.2)]
      rw [hr]
      rw [hm] at h
      have HI := Lib.hid hi
      clear hr hm hi
      dsimp only [Geo.v] at *
      have H := Lib.hid h; clear h
      go_enter Try.func25, Try.ntmps25
      go_wp2_with fail
      refine (H.out _).mono ?_
      rintro e w1 ⟨rfl, hB⟩
      have hG := geoAt_keep (geoAt_new g w) hB
      clear hB
      go_wp2_with fail
      refine (in_b i 0 (g.nodes - 1) false _ (decide_eq_false (fun x => HI.out (by omega))).symm).mono ?_
      rintro e w' ⟨rfl, rfl⟩
      go_wp2_with fail
      go_ret
      exact ⟨rfl, hG.2.2.2.2.2.2.2.2.2⟩
  · have hr : g.paxosS i = -1 := by unfold Geo.paxosS; rw [if_neg (fun x => hm x.1)]
    rw [hr]
    have hm' : g.may = false := by simpa using hm
    rw [hm'] at h
    clear hr hm hm'
    dsimp only [Geo.v] at *
    have H := Lib.hid h; clear h
    go_enter Try.func25, Try.ntmps25
    go_wp2_with fail
    refine (H.out _).mono ?_
    rintro e w1 ⟨rfl, hB⟩
    go_wp2_with fail
    go_ret
    exact ⟨rfl, below_step ((Below.refl _ _).alloc (Nat.le_refl _) _) hB (by simp)⟩

set_option maxHeartbeats 1000000 in
theorem RLog_any (g : Geo) (i : Int) (w : World) :
    Calls Try.prog 27 #[g.v, .int .i64 i] w fun e w' => e = .returned (.int .i64 (g.logS i)) ∧ Below w.heap.size w w' := by
  have h := fun w => RMay_any g w
  by_cases hm : g.may = true
  · obtain ⟨k1, k2, k3, k4, k5, k6, k7, k8, k9, k10, k11, k12, k13, k14, k15⟩ := Geo.may_ok hm
    by_cases hi : 0 ≤ i ∧ i < g.log
    · have hr : g.logS i = 1 + 2 * g.nodes + i := by unfold Geo.logS; rw [if_pos ⟨hm, hi⟩]
      rw [hr]
      rw [hm] at h
      obtain ⟨i1, i2⟩ := hi
      clear hr hm
      dsimp only [Geo.v] at *
      have H := Lib.hid h; clear h
      go_enter Try.func27, Try.ntmps27
      go_wp2_with fail
      refine (H.out _).mono ?_
      rintro e w1 ⟨rfl, hB⟩
      have hG := geoAt_keep (geoAt_new g w) hB
      clear hB
      go_wp2_with fail
      refine (in_b i 0 (g.log - 1) true _ (decide_eq_true ⟨by omega, by omega⟩).symm).mono ?_
      rintro e w' ⟨rfl, rfl⟩
      go_wp2_with fail
      go_ret
      exact ⟨rfl, hG.2.2.2.2.2.2.2.2.2⟩
    · have hr : g.logS i = -1 := by unfold Geo.logS; rw [if_neg (fun x => hi x.2)]
      rw [hr]
      rw [hm] at h
      have HI := Lib.hid hi
      clear hr hm hi
      dsimp only [Geo.v] at *
      have H := Lib.hid h; clear h
      go_enter Try.func27, Try.ntmps27
      go_wp2_with fail
      refine (H.out _).mono ?_
      rintro e w1 ⟨rfl, hB⟩
      have hG := geoAt_keep (geoAt_new g w) hB
      clear hB
      go_wp2_with fail
      refine (in_b i 0 (g.log - 1) false _ (decide_eq_false (fun x => HI.out (by omega))).symm).mono ?_
      rintro e w' ⟨rfl, rfl⟩
      go_wp2_with fail
      go_ret
      exact ⟨rfl, hG.2.2.2.2.2.2.2.2.2⟩
  · have hr : g.logS i = -1 := by unfold Geo.logS; rw [if_neg (fun x => hm x.1)]
    rw [hr]
    have hm' : g.may = false := by simpa using hm
    rw [hm'] at h
    clear hr hm hm'
    dsimp only [Geo.v] at *
    have H := Lib.hid h; clear h
    go_enter Try.func27, Try.ntmps27
    go_wp2_with fail
    refine (H.out _).mono ?_
    rintro e w1 ⟨rfl, hB⟩
    go_wp2_with fail
    go_ret
    exact ⟨rfl, below_step ((Below.refl _ _).alloc (Nat.le_refl _) _) hB (by simp)⟩

set_option maxHeartbeats 1000000 in
theorem RHead_any (g : Geo) (i : Int) (w : World) :
    Calls Try.prog 28 #[g.v, .int .i64 i] w fun e w' => e = .returned (.int .i64 (g.headS i)) ∧ Below w.heap.size w w' := by
  have h := fun w => RMay_any g w
  by_cases hm : g.may = true
  · obtain ⟨k1, k2, k3, k4, k5, k6, k7, k8, k9, k10, k11, k12, k13, k14, k15⟩ := Geo.may_ok hm
    by_cases hi : 0 ≤ i ∧ i < g.slots
    · have hr : g.headS i = 1 + 2 * g.nodes + g.log + i * (1 + g.journal) := by unfold Geo.headS; rw [if_pos ⟨hm, hi⟩]
      rw [hr]
      rw [hm] at h
      obtain ⟨i1, i2⟩ := hi
      clear hr hm
      have hp := mul_bd (a := i) (b := 1 + g.journal) (A := 16) (B := 65) (by omega) (by omega) (by omega) (by omega)
      dsimp only [Geo.v] at *
      have H := Lib.hid h; clear h
      go_enter Try.func28, Try.ntmps28
      go_wp2_with fail
      refine (H.out _).mono ?_
      rintro e w1 ⟨rfl, hB⟩
      have hG := geoAt_keep (geoAt_new g w) hB
      clear hB
      go_wp2_with fail
      refine (in_b i 0 (g.slots - 1) true _ (decide_eq_true ⟨by omega, by omega⟩).symm).mono ?_
      rintro e w' ⟨rfl, rfl⟩
      go_wp2_with fail
      go_ret
      exact ⟨rfl, hG.2.2.2.2.2.2.2.2.2⟩
    · have hr : g.headS i = -1 := by unfold Geo.headS; rw [if_neg (fun x => hi x.2)]
      rw [hr]
      rw [hm] at h
      have HI := Lib.hid hi
      clear hr hm hi
      dsimp only [Geo.v] at *
      have H := Lib.hid h; clear h
      go_enter Try.func28, Try.ntmps28
      go_wp2_with fail
      refine (H.out _).mono ?_
      rintro e w1 ⟨rfl, hB⟩
      have hG := geoAt_keep (geoAt_new g w) hB
      clear hB
      go_wp2_with fail
      refine (in_b i 0 (g.slots - 1) false _ (decide_eq_false (fun x => HI.out (by omega))).symm).mono ?_
      rintro e w' ⟨rfl, rfl⟩
      go_wp2_with fail
      go_ret
      exact ⟨rfl, hG.2.2.2.2.2.2.2.2.2⟩
  · have hr : g.headS i = -1 := by unfold Geo.headS; rw [if_neg (fun x => hm x.1)]
    rw [hr]
    have hm' : g.may = false := by simpa using hm
    rw [hm'] at h
    clear hr hm hm'
    dsimp only [Geo.v] at *
    have H := Lib.hid h; clear h
    go_enter Try.func28, Try.ntmps28
    go_wp2_with fail
    refine (H.out _).mono ?_
    rintro e w1 ⟨rfl, hB⟩
    go_wp2_with fail
    go_ret
    exact ⟨rfl, below_step ((Below.refl _ _).alloc (Nat.le_refl _) _) hB (by simp)⟩

set_option maxHeartbeats 1000000 in
set_option maxRecDepth 100000 in
theorem RData_any (g : Geo) (i k : Int) (w : World) :
    Calls Try.prog 30 #[g.v, .int .i64 i, .int .i64 k] w fun e w' => e = .returned (.int .i64 (g.dataS i k)) ∧ Below w.heap.size w w' := by
  have h := fun w => RMay_any g w
  by_cases hm : g.may = true
  · have hsj := (Geo.may_ok hm).sj
    obtain ⟨k1, k2, k3, k4, k5, k6, k7, k8, k9, k10, k11, k12, k13, k14, k15⟩ := Geo.may_ok hm
    by_cases hi : 0 ≤ i ∧ i < g.blocks
    · by_cases hk : 0 ≤ k ∧ k < g.per
      · have hr : g.dataS i k = 1 + 2 * g.nodes + g.log + g.slots * (1 + g.journal) + i * g.per + k := by unfold Geo.dataS; rw [if_pos ⟨hm, hi.1, hi.2, hk⟩]
        rw [hr]
        rw [hm] at h
        obtain ⟨i1, i2⟩ := hi
        obtain ⟨i3, i4⟩ := hk
        have hp := mul_bd (a := i) (b := g.per) (A := 64) (B := 8) (by omega) (by omega) (by omega) (by omega)
        clear hr hm
        dsimp only [Geo.v] at *
        have H := Lib.hid h; clear h
        go_enter Try.func30, Try.ntmps30
        go_wp2_with fail
        refine (H.out _).mono ?_
        rintro e w1 ⟨rfl, hB⟩
        have hG := geoAt_keep (geoAt_new g w) hB
        clear hB
        go_wp2_with fail
        refine (in_b i 0 (g.blocks - 1) true _ (decide_eq_true ⟨by omega, by omega⟩).symm).mono ?_
        rintro e w' ⟨rfl, rfl⟩
        go_wp2_with fail
        refine (in_b k 0 (g.per - 1) true _ (decide_eq_true ⟨by omega, by omega⟩).symm).mono ?_
        rintro e w' ⟨rfl, rfl⟩
        go_wp2_with fail
        go_ret
        exact ⟨rfl, hG.2.2.2.2.2.2.2.2.2⟩
      · have hr : g.dataS i k = -1 := by unfold Geo.dataS; rw [if_neg (fun x => hk x.2.2.2)]
        rw [hr]
        rw [hm] at h
        have HK := Lib.hid hk
        obtain ⟨i1, i2⟩ := hi
        clear hr hm hk
        dsimp only [Geo.v] at *
        have H := Lib.hid h; clear h
        go_enter Try.func30, Try.ntmps30
        go_wp2_with fail
        refine (H.out _).mono ?_
        rintro e w1 ⟨rfl, hB⟩
        have hG := geoAt_keep (geoAt_new g w) hB
        clear hB
        go_wp2_with fail
        refine (in_b i 0 (g.blocks - 1) true _ (decide_eq_true ⟨by omega, by omega⟩).symm).mono ?_
        rintro e w' ⟨rfl, rfl⟩
        go_wp2_with fail
        refine (in_b k 0 (g.per - 1) false _ (decide_eq_false (fun x => HK.out (by omega))).symm).mono ?_
        rintro e w' ⟨rfl, rfl⟩
        go_wp2_with fail
        go_ret
        exact ⟨rfl, hG.2.2.2.2.2.2.2.2.2⟩
    · have hr : g.dataS i k = -1 := by unfold Geo.dataS; rw [if_neg (fun x => hi ⟨x.2.1, x.2.2.1⟩)]
      rw [hr]
      rw [hm] at h
      have HI := Lib.hid hi
      clear hr hm hi
      dsimp only [Geo.v] at *
      have H := Lib.hid h; clear h
      go_enter Try.func30, Try.ntmps30
      go_wp2_with fail
      refine (H.out _).mono ?_
      rintro e w1 ⟨rfl, hB⟩
      have hG := geoAt_keep (geoAt_new g w) hB
      clear hB
      go_wp2_with fail
      refine (in_b i 0 (g.blocks - 1) false _ (decide_eq_false (fun x => HI.out (by omega))).symm).mono ?_
      rintro e w' ⟨rfl, rfl⟩
      go_wp2_with fail
      go_ret
      exact ⟨rfl, hG.2.2.2.2.2.2.2.2.2⟩
  · have hr : g.dataS i k = -1 := by unfold Geo.dataS; rw [if_neg (fun x => hm x.1)]
    rw [hr]
    have hm' : g.may = false := by simpa using hm
    rw [hm'] at h
    clear hr hm hm'
    dsimp only [Geo.v] at *
    have H := Lib.hid h; clear h
    go_enter Try.func30, Try.ntmps30
    go_wp2_with fail
    refine (H.out _).mono ?_
    rintro e w1 ⟨rfl, hB⟩
    go_wp2_with fail
    go_ret
    exact ⟨rfl, below_step ((Below.refl _ _).alloc (Nat.le_refl _) _) hB (by simp)⟩

theorem data_last {g : Geo} (hm : g.may = true) : g.dataS (g.blocks - 1) (g.per - 1) + 1 = g.totalS := by
  have hk := Geo.may_ok hm
  have h1 := hk.b1; have h2 := hk.p1
  unfold Geo.dataS Geo.totalS
  rw [if_pos ⟨hm, by omega, by omega, by omega, by omega⟩, if_pos hm]
  unfold Geo.total
  have : (g.blocks - 1) * g.per = g.blocks * g.per - g.per := by rw [Int.sub_mul]; omega
  omega
theorem data_bd (g : Geo) (i k : Int) : -1 ≤ g.dataS i k ∧ g.dataS i k ≤ 10000 := by
  unfold Geo.dataS
  split
  · rename_i h
    obtain ⟨hm, h1, h2, h3, h4⟩ := h
    have hsj := (Geo.may_ok hm).sj
    obtain ⟨k1, k2, k3, k4, k5, k6, k7, k8, k9, k10, k11, k12, k13, k14, k15⟩ := Geo.may_ok hm
    have hp := mul_bd (a := i) (b := g.per) (A := 64) (B := 8) (by omega) (by omega) (by omega) (by omega)
    omega
  · omega
theorem head_bd (g : Geo) (i : Int) : -1 ≤ g.headS i ∧ g.headS i ≤ 10000 := by
  unfold Geo.headS
  split
  · rename_i h
    obtain ⟨hm, h1, h2⟩ := h
    obtain ⟨k1, k2, k3, k4, k5, k6, k7, k8, k9, k10, k11, k12, k13, k14, k15⟩ := Geo.may_ok hm
    have hp := mul_bd (a := i) (b := 1 + g.journal) (A := 16) (B := 65) (by omega) (by omega) (by omega) (by omega)
    omega
  · omega
set_option maxHeartbeats 400000 in
theorem RTotal_any (g : Geo) (w : World) :
    Calls Try.prog 20 #[g.v] w fun e w' => e = .returned (.int .i64 g.totalS) ∧ Below w.heap.size w w' := by
  have h := fun w => RMay_any g w
  by_cases hm : g.may = true
  · have hd := fun w => RData_any g (g.blocks - 1) (g.per - 1) w
    have hbd := data_bd g (g.blocks - 1) (g.per - 1)
    rw [← data_last hm]
    have hk := Geo.may_ok hm
    have h1 := hk.b1; have h2 := hk.p1; have h3 := hk.b2; have h4 := hk.p2
    rw [hm] at h
    clear hk hm
    generalize g.dataS (g.blocks - 1) (g.per - 1) = z at *
    obtain ⟨z1, z2⟩ := hbd
    dsimp only [Geo.v] at *
    have H := Lib.hid h; clear h
    have HD := Lib.hid hd; clear hd
    go_enter Try.func20, Try.ntmps20
    go_wp2_with fail
    refine (H.out _).mono ?_
    rintro e w1 ⟨rfl, hB⟩
    have hG := geoAt_keep (geoAt_new g w) hB
    clear hB
    go_wp2_with fail
    refine (HD.out _).mono ?_
    rintro e w2 ⟨rfl, hB2⟩
    have hG2 := geoAt_keep hG hB2
    clear hB2 hG
    go_wp2_with fail
    go_ret
    exact ⟨rfl, hG2.2.2.2.2.2.2.2.2.2⟩
  · have hr : g.totalS = 0 := by unfold Geo.totalS; rw [if_neg hm]
    rw [hr]
    have hm' : g.may = false := by simpa using hm
    rw [hm'] at h
    clear hr hm hm'
    dsimp only [Geo.v] at *
    have H := Lib.hid h; clear h
    go_enter Try.func20, Try.ntmps20
    go_wp2_with fail
    refine (H.out _).mono ?_
    rintro e w1 ⟨rfl, hB⟩
    go_wp2_with fail
    go_ret
    exact ⟨rfl, below_step ((Below.refl _ _).alloc (Nat.le_refl _) _) hB (by simp)⟩

theorem journal_head {g : Geo} {i l : Int} (h : 0 ≤ g.headS i) (hl : 0 ≤ l) : g.journalS i l = g.headS i + 1 + l % g.journal := by
  obtain ⟨h1, h2, h3⟩ := head_may h
  unfold Geo.journalS Geo.headS
  rw [if_pos ⟨h1, h2, h3, hl⟩, if_pos ⟨h1, h2, h3⟩]
set_option maxHeartbeats 1000000 in
theorem RJournal_any (g : Geo) (i l : Int) (w : World) :
    Calls Try.prog 29 #[g.v, .int .i64 i, .int .i64 l] w fun e w' => e = .returned (.int .i64 (g.journalS i l)) ∧ Below w.heap.size w w' := by
  have hh := fun w => RHead_any g i w
  have hbd := head_bd g i
  by_cases hd : g.headS i < 0
  · rw [head_neg hd]
    generalize g.headS i = z at *
    dsimp only [Geo.v] at *
    have H := Lib.hid hh; clear hh
    go_enter Try.func29, Try.ntmps29
    go_wp2_with fail
    refine (H.out _).mono ?_
    rintro e w1 ⟨rfl, hB⟩
    go_wp2_with fail
    go_ret
    exact ⟨rfl, below_step ((Below.refl _ _).alloc (Nat.le_refl _) _) hB (by simp)⟩
  · have hd0 : 0 ≤ g.headS i := by omega
    by_cases hl0 : l < 0
    · rw [journal_neg hl0]
      generalize g.headS i = z at *
      dsimp only [Geo.v] at *
      have H := Lib.hid hh; clear hh
      go_enter Try.func29, Try.ntmps29
      go_wp2_with fail
      refine (H.out _).mono ?_
      rintro e w1 ⟨rfl, hB⟩
      go_wp2_with fail
      go_ret
      exact ⟨rfl, below_step ((Below.refl _ _).alloc (Nat.le_refl _) _) hB (by simp)⟩
    · have hl1 : 0 ≤ l := by omega
      rw [journal_head hd0 hl1]
      obtain ⟨hm, hi1, hi2⟩ := head_may hd0
      have hk := Geo.may_ok hm
      have h1 := hk.j1; have h2 := hk.p1; have h3 := hk.j2
      generalize g.headS i = z at *
      have hr0 := Int.emod_nonneg l (b := g.journal) (by omega)
      have hr1 := Int.emod_lt_of_pos l (b := g.journal) (by omega)
      obtain ⟨z1, z2⟩ := hbd
      dsimp only [Geo.v] at *
      clear hm hk hd hl0
      have H := Lib.hid hh; clear hh
      go_enter Try.func29, Try.ntmps29
      go_wp2_with fail
      refine (H.out _).mono ?_
      rintro e w1 ⟨rfl, hB⟩
      have hG := geoAt_keep (geoAt_new g w) hB
      clear hB
      have HG := Lib.hid hG
      have hj0 : ¬ g.journal = 0 := by omega
      have hj1 : l.tmod g.journal = l % g.journal := Int.tmod_eq_emod_of_nonneg hl1
      have hj2 : IntKind.i64.wrap (z + 1) = z + 1 := IntWalk.i64_in _ (by omega)
      have hj3 : IntKind.i64.wrap (z + 1 + l % g.journal) = z + 1 + l % g.journal := IntWalk.i64_in _ (by omega)
      go_wp2_with fail
      go_region_held3 (GeoAt g w.heap.size w) (first | exact geoAt_drew HG.out | exact geoAt_keep (by assumption) (by assumption)) (first | (go_at_call 28; refine (H.out _).mono ?_; rintro e w3 ⟨rfl, hB3⟩))
      have hG3 : GeoAt g w.heap.size w w3 := by assumption
      have HG3 := Lib.hid hG3; clear hG3 hj1 hj2 hj3 hj0
      go_wp2_with fail
      go_ret
      exact ⟨rfl, HG3.out.2.2.2.2.2.2.2.2.2⟩
end Go.Proofs.Ythfnbageimpbiaa
