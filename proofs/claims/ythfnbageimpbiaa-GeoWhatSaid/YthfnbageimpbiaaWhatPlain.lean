/- What stands at a sector of a geometry that may be, stretch by stretch. -/
import Derived.Test.YthfnbageimpbiaaGeoWhat
namespace Go.Proofs.Ythfnbageimpbiaa

theorem whatR_1 (f m k s : Int) (hk : k ≠ 6) : whatR ⟨f, m, k, 1⟩ s = (k, s, 0) := by
  unfold whatR
  dsimp only
  rw [if_neg hk, Int.ediv_one, Int.emod_one]

theorem what_super {g : Geo} : whatL g.rgs 0 = (1, 0, 0) := by
  simp only [Geo.rgs, whatL]
  rw [if_pos (by omega), whatR_1 _ _ _ _ (by decide)]; rfl
theorem what_lease {g : Geo} {i : Int} (h0 : 0 ≤ i) (h1 : i < g.nodes) : whatL g.rgs (1 + i) = (2, i, 0) := by
  simp only [Geo.rgs, whatL]
  rw [if_neg (by omega), if_pos (by omega), whatR_1 _ _ _ _ (by decide)]
  rw [show 1 + i - 1 = i by omega]
theorem what_paxos {g : Geo} (ok : g.OK) {i : Int} (h0 : 0 ≤ i) (h1 : i < g.nodes) : whatL g.rgs (1 + g.nodes + i) = (3, i, 0) := by
  have := ok.n1
  simp only [Geo.rgs, whatL]
  rw [if_neg (by omega), if_neg (by omega), if_pos (by omega), whatR_1 _ _ _ _ (by decide)]
  rw [show 1 + g.nodes + i - (1 + g.nodes) = i by omega]
theorem what_log {g : Geo} (ok : g.OK) {i : Int} (h0 : 0 ≤ i) (h1 : i < g.log) : whatL g.rgs (1 + 2 * g.nodes + i) = (4, i, 0) := by
  have := ok.n1
  simp only [Geo.rgs, whatL]
  rw [if_neg (by omega), if_neg (by omega), if_neg (by omega), if_pos (by omega), whatR_1 _ _ _ _ (by decide)]
  rw [show 1 + 2 * g.nodes + i - (1 + g.nodes + g.nodes) = i by omega]
theorem what_j {g : Geo} (ok : g.OK) {i k : Int} (h0 : 0 ≤ i) (h1 : i < g.slots) (h2 : 0 ≤ k) (h3 : k < 1 + g.journal) :
    whatL g.rgs (1 + 2 * g.nodes + g.log + i * (1 + g.journal) + k) = if k = 0 then (5, i, 0) else (6, i, k - 1) := by
  have e1 := ok.n1; have e2 := ok.l1; have e3 := ok.s1; have e4 := ok.j1; have e5 := ok.p1
  have p0 : 0 ≤ i * (1 + g.journal) := Int.mul_nonneg h0 (by omega)
  have p1 : (i + 1) * (1 + g.journal) ≤ g.slots * (1 + g.journal) := Int.mul_le_mul_of_nonneg_right (by omega) (by omega)
  have p2 : (i + 1) * (1 + g.journal) = i * (1 + g.journal) + (1 + g.journal) := by rw [Int.add_mul]; omega
  simp only [Geo.rgs, whatL]
  rw [if_neg (by omega), if_neg (by omega), if_neg (by omega), if_neg (by omega), if_pos (by omega)]
  unfold whatR
  dsimp only
  rw [if_pos rfl, show 1 + 2 * g.nodes + g.log + i * (1 + g.journal) + k - (1 + g.nodes + g.nodes + g.log) = k + i * (1 + g.journal) by omega]
  rw [Int.add_mul_emod_self_right, Int.add_mul_ediv_right _ _ (by omega), Int.emod_eq_of_lt h2 h3, Int.ediv_eq_zero_of_lt h2 h3, Int.zero_add]
theorem what_data {g : Geo} (ok : g.OK) {s : Int} (h0 : g.atD ≤ s) (h1 : s < g.total) : whatL g.rgs s = (7, (s - g.atD) / g.per, (s - g.atD) % g.per) := by
  have e1 := ok.n1; have e2 := ok.l1; have e3 := ok.s1; have e4 := ok.j1; have e5 := ok.p1
  have sj := ok.sj
  unfold Geo.atD at *
  unfold Geo.total at h1
  simp only [Geo.rgs, whatL]
  rw [if_neg (by omega), if_neg (by omega), if_neg (by omega), if_neg (by omega), if_neg (by omega), if_pos (by omega)]
  unfold whatR
  dsimp only
  rw [if_neg (by decide), show s - (1 + g.nodes + g.nodes + g.log + g.slots * (1 + g.journal)) = s - (1 + 2 * g.nodes + g.log + g.slots * (1 + g.journal)) by omega]
theorem what_out {g : Geo} (ok : g.OK) {s : Int} (h : s < 0 ∨ g.total ≤ s) : whatL g.rgs s = (0, 0, 0) := by
  have e1 := ok.n1; have e2 := ok.l1; have e3 := ok.s1; have e4 := ok.j1; have e5 := ok.p1
  have sj := ok.sj
  have bp := ok.bp
  unfold Geo.total at h
  simp only [Geo.rgs, whatL]
  rw [if_neg (by omega), if_neg (by omega), if_neg (by omega), if_neg (by omega), if_neg (by omega), if_neg (by omega)]
theorem whatM {g : Geo} (hm : g.may = true) (s : Int) : whatL g.rgsM s = whatL g.rgs s := by unfold Geo.rgsM; rw [if_pos hm]
theorem whatN {g : Geo} (hm : ¬ g.may = true) (s : Int) : whatL g.rgsM s = (0, 0, 0) := by unfold Geo.rgsM; rw [if_neg hm]; rfl

/-- the sector of a thing -/
def Geo.sectorS (g : Geo) (k a b : Int) : Int :=
  if k = 1 then 0 else if k = 2 then g.leaseS a else if k = 3 then g.paxosS a else if k = 4 then g.logS a else if k = 5 then g.headS a else if k = 6 then g.journalS a b else if k = 7 then g.dataS a b else -1

theorem total_bd {g : Geo} (ok : g.OK) : 1 ≤ g.total ∧ g.total ≤ 10000 := by
  have sj := ok.sj
  have bp := ok.bp
  obtain ⟨k1, k2, k3, k4, k5, k6, k7, k8, k9, k10, k11, k12, k13, k14, k15⟩ := ok
  unfold Geo.total
  omega
/-- Each sector is just one thing, which stands there. -/
theorem what_once {g : Geo} (hm : g.may = true) {s : Int} (h0 : 0 ≤ s) (h1 : s < g.total) :
    ∃ k a b, whatL g.rgsM s = (k, a, b) ∧ (k = 1 ∨ k = 2 ∨ k = 3 ∨ k = 4 ∨ k = 5 ∨ k = 6 ∨ k = 7) ∧ g.sectorS k a b = s ∧ b ≤ 10000 := by
  have ok := Geo.may_ok hm
  rw [whatM hm]
  have e1 := ok.n1; have e2 := ok.l1; have e3 := ok.s1; have e4 := ok.j1; have e5 := ok.p1; have e6 := ok.p2; have e7 := ok.j2
  have sj := ok.sj
  by_cases c0 : s = 0
  · subst c0
    exact ⟨1, 0, 0, what_super, .inl rfl, rfl, by omega⟩
  by_cases c1 : s < 1 + g.nodes
  · refine ⟨2, s - 1, 0, ?_, .inr (.inl rfl), ?_, by omega⟩
    · have := what_lease (g := g) (i := s - 1) (by omega) (by omega)
      rwa [show 1 + (s - 1) = s by omega] at this
    · show g.leaseS (s - 1) = s
      unfold Geo.leaseS
      rw [if_pos ⟨hm, by omega, by omega⟩]; omega
  by_cases c2 : s < 1 + 2 * g.nodes
  · refine ⟨3, s - 1 - g.nodes, 0, ?_, .inr (.inr (.inl rfl)), ?_, by omega⟩
    · have := what_paxos ok (i := s - 1 - g.nodes) (by omega) (by omega)
      rwa [show 1 + g.nodes + (s - 1 - g.nodes) = s by omega] at this
    · show g.paxosS (s - 1 - g.nodes) = s
      unfold Geo.paxosS
      rw [if_pos ⟨hm, by omega, by omega⟩]; omega
  by_cases c3 : s < 1 + 2 * g.nodes + g.log
  · refine ⟨4, s - (1 + 2 * g.nodes), 0, ?_, .inr (.inr (.inr (.inl rfl))), ?_, by omega⟩
    · have := what_log ok (i := s - (1 + 2 * g.nodes)) (by omega) (by omega)
      rwa [show 1 + 2 * g.nodes + (s - (1 + 2 * g.nodes)) = s by omega] at this
    · show g.logS (s - (1 + 2 * g.nodes)) = s
      unfold Geo.logS
      rw [if_pos ⟨hm, by omega, by omega⟩]; omega
  by_cases c4 : s < g.atD
  · unfold Geo.atD at c4
    have d0 : 0 ≤ s - (1 + 2 * g.nodes + g.log) := by omega
    have q0 := Int.ediv_nonneg d0 (show 0 ≤ 1 + g.journal by omega)
    have q1 : (s - (1 + 2 * g.nodes + g.log)) / (1 + g.journal) < g.slots := Int.ediv_lt_of_lt_mul (by omega) (by omega)
    have r0 := Int.emod_nonneg (s - (1 + 2 * g.nodes + g.log)) (b := 1 + g.journal) (by omega)
    have r1 := Int.emod_lt_of_pos (s - (1 + 2 * g.nodes + g.log)) (b := 1 + g.journal) (by omega)
    have hdm := Int.mul_ediv_add_emod (s - (1 + 2 * g.nodes + g.log)) (1 + g.journal)
    generalize (s - (1 + 2 * g.nodes + g.log)) / (1 + g.journal) = q at *
    generalize (s - (1 + 2 * g.nodes + g.log)) % (1 + g.journal) = r at *
    rw [Int.mul_comm] at hdm
    have hw := what_j ok q0 q1 r0 r1
    rw [show 1 + 2 * g.nodes + g.log + q * (1 + g.journal) + r = s by omega] at hw
    by_cases hr : r = 0
    · rw [if_pos hr] at hw
      refine ⟨5, q, 0, hw, .inr (.inr (.inr (.inr (.inl rfl)))), ?_, by omega⟩
      show g.headS q = s
      unfold Geo.headS
      rw [if_pos ⟨hm, q0, q1⟩]; omega
    · rw [if_neg hr] at hw
      refine ⟨6, q, r - 1, hw, .inr (.inr (.inr (.inr (.inr (.inl rfl))))), ?_, by omega⟩
      show g.journalS q (r - 1) = s
      unfold Geo.journalS
      rw [if_pos ⟨hm, q0, q1, by omega⟩, Int.emod_eq_of_lt (by omega) (by omega)]; omega
  · have hw := what_data ok (s := s) (by omega) h1
    unfold Geo.total at h1
    unfold Geo.atD at c4 hw
    have d0 : 0 ≤ s - (1 + 2 * g.nodes + g.log + g.slots * (1 + g.journal)) := by omega
    have q0 := Int.ediv_nonneg d0 (show 0 ≤ g.per by omega)
    have q1 : (s - (1 + 2 * g.nodes + g.log + g.slots * (1 + g.journal))) / g.per < g.blocks := Int.ediv_lt_of_lt_mul (by omega) (by omega)
    have r0 := Int.emod_nonneg (s - (1 + 2 * g.nodes + g.log + g.slots * (1 + g.journal))) (b := g.per) (by omega)
    have r1 := Int.emod_lt_of_pos (s - (1 + 2 * g.nodes + g.log + g.slots * (1 + g.journal))) (b := g.per) (by omega)
    have hdm := Int.mul_ediv_add_emod (s - (1 + 2 * g.nodes + g.log + g.slots * (1 + g.journal))) g.per
    generalize (s - (1 + 2 * g.nodes + g.log + g.slots * (1 + g.journal))) / g.per = q at *
    generalize (s - (1 + 2 * g.nodes + g.log + g.slots * (1 + g.journal))) % g.per = r at *
    rw [Int.mul_comm] at hdm
    refine ⟨7, q, r, hw, .inr (.inr (.inr (.inr (.inr (.inr rfl))))), ?_, by omega⟩
    show g.dataS q r = s
    unfold Geo.dataS
    rw [if_pos ⟨hm, q0, q1, r0, r1⟩]; omega
end Go.Proofs.Ythfnbageimpbiaa
