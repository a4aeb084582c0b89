/- The walks of geo: Lease, Paxos, Log, Head, Data, Total, Rest, Journal. -/
import Derived.Test.YtfonaceldfjneaaHeld
import Derived.StillTailTactics
import Derived.IntWalk
namespace Go.Proofs.Ytfonaceldfjneaa
open Go.RowKit

theorem findM {g : Geo} (hm : g.may = true) (k : Int) : findR g.rgsM k = findR g.rgs k := by unfold Geo.rgsM; rw [if_pos hm]
theorem findN {g : Geo} (hm : ¬ g.may = true) (k : Int) : findR g.rgsM k = noRg := by unfold Geo.rgsM; rw [if_neg hm]; rfl
theorem of_no (i k : Int) : ofS noRg i k = -1 := by
  unfold ofS noRg
  dsimp only
  rw [if_neg (by simp only [Int.zero_ediv]; omega)]
theorem ofS_if {r : Rg} {i k : Int} {c : Prop} [Decidable c] {z : Int} (hc : (0 ≤ i ∧ i < r.many / r.per ∧ 0 ≤ k ∧ k < r.per) ↔ c) (hz : c → r.first + (i * r.per + k) = z) : ofS r i k = if c then z else -1 := by
  unfold ofS
  by_cases h : c
  · rw [if_pos h, if_pos (hc.2 h), hz h]
  · rw [if_neg h, if_neg (fun x => h (hc.1 x))]
theorem of_lease (g : Geo) (i : Int) : ofS (findR g.rgsM 2) i 0 = g.leaseS i := by
  unfold Geo.leaseS
  by_cases hm : g.may = true
  · rw [findM hm, show findR g.rgs 2 = ⟨1, g.nodes, 2, 1⟩ from rfl]
    exact ofS_if (by simp only [Int.ediv_one, hm, true_and]; omega) (fun _ => by dsimp only; omega)
  · rw [findN hm, of_no, if_neg (fun x => hm x.1)]
theorem of_paxos (g : Geo) (i : Int) : ofS (findR g.rgsM 3) i 0 = g.paxosS i := by
  unfold Geo.paxosS
  by_cases hm : g.may = true
  · rw [findM hm, show findR g.rgs 3 = ⟨1 + g.nodes, g.nodes, 3, 1⟩ from rfl]
    exact ofS_if (by simp only [Int.ediv_one, hm, true_and]; omega) (fun _ => by dsimp only; omega)
  · rw [findN hm, of_no, if_neg (fun x => hm x.1)]
theorem of_log (g : Geo) (i : Int) : ofS (findR g.rgsM 4) i 0 = g.logS i := by
  unfold Geo.logS
  by_cases hm : g.may = true
  · rw [findM hm, show findR g.rgs 4 = ⟨1 + g.nodes + g.nodes, g.log, 4, 1⟩ from rfl]
    exact ofS_if (by simp only [Int.ediv_one, hm, true_and]; omega) (fun _ => by dsimp only; omega)
  · rw [findN hm, of_no, if_neg (fun x => hm x.1)]
theorem of_head (g : Geo) (i : Int) : ofS (findR g.rgsM 6) i 0 = g.headS i := by
  unfold Geo.headS
  by_cases hm : g.may = true
  · have hk := Geo.may_ok hm
    have h1 := hk.j1; have h2 := hk.p1
    rw [findM hm, show findR g.rgs 6 = ⟨1 + g.nodes + g.nodes + g.log, g.slots * (1 + g.journal), 6, 1 + g.journal⟩ from rfl]
    exact ofS_if (by simp only [hm, true_and]; rw [Int.mul_ediv_cancel _ (by omega)]; omega) (fun _ => by dsimp only; omega)
  · rw [findN hm, of_no, if_neg (fun x => hm x.1)]
theorem of_journal {g : Geo} (hm : g.may = true) (i l : Int) (hi : 0 ≤ i ∧ i < g.slots) (hl : 0 ≤ l) : ofS (findR g.rgsM 6) i (1 + l % g.journal) = g.journalS i l := by
  unfold Geo.journalS
  have hk := Geo.may_ok hm
  have h1 := hk.j1; have h2 := hk.p1
  have h3 := Int.emod_nonneg l (b := g.journal) (by omega)
  have h4 := Int.emod_lt_of_pos l (b := g.journal) (by omega)
  rw [findM hm, show findR g.rgs 6 = ⟨1 + g.nodes + g.nodes + g.log, g.slots * (1 + g.journal), 6, 1 + g.journal⟩ from rfl]
  exact ofS_if (by simp only [hm, true_and]; rw [Int.mul_ediv_cancel _ (by omega)]; omega) (fun _ => by dsimp only; omega)
theorem of_data (g : Geo) (i k : Int) : ofS (findR g.rgsM 7) i k = g.dataS i k := by
  unfold Geo.dataS
  by_cases hm : g.may = true
  · have hk := Geo.may_ok hm
    have h2 := hk.p1
    rw [findM hm, show findR g.rgs 7 = ⟨1 + g.nodes + g.nodes + g.log + g.slots * (1 + g.journal), g.blocks * g.per, 7, g.per⟩ from rfl]
    exact ofS_if (by simp only [hm, true_and]; rw [Int.mul_ediv_cancel _ (by omega)]) (fun _ => by dsimp only; omega)
  · rw [findN hm, of_no, if_neg (fun x => hm x.1)]
theorem of_total (g : Geo) : (findR g.rgsM 7).first + (findR g.rgsM 7).many = g.totalS := by
  unfold Geo.totalS
  by_cases hm : g.may = true
  · rw [findM hm, if_pos hm, show findR g.rgs 7 = ⟨1 + g.nodes + g.nodes + g.log + g.slots * (1 + g.journal), g.blocks * g.per, 7, g.per⟩ from rfl]
    unfold Geo.total
    dsimp only
    omega
  · rw [findN hm, if_neg hm]; rfl


set_option maxHeartbeats 400000 in
theorem Head_any (g : Geo) (i : Int) (w : World) (hw1 : -9223372036854775808 ≤ g.wait) (hw2 : g.wait ≤ 9223372036854775807) :
    Calls Try.prog 49 #[g.v, .int .i64 i] w fun e w' => e = .returned (.int .i64 (g.headS i)) ∧ Below w.heap.size w w' := by
  have h := fun w => of_any g 6 i 0 w hw1 hw2
  rw [of_head] at h
  generalize g.headS i = z at *
  dsimp only [Geo.v] at *
  have H := Lib.hid h; clear h
  go_enter Try.func49, Try.ntmps49
  go_wp2_with fail
  refine (H.out _).mono ?_
  rintro e w1 ⟨rfl, hB⟩
  go_wp2_with fail
  go_ret
  exact ⟨rfl, below_step ((Below.refl _ _).alloc (Nat.le_refl _) _) hB (by simp)⟩

set_option maxHeartbeats 400000 in
theorem Data_any (g : Geo) (i k : Int) (w : World) (hw1 : -9223372036854775808 ≤ g.wait) (hw2 : g.wait ≤ 9223372036854775807) :
    Calls Try.prog 54 #[g.v, .int .i64 i, .int .i64 k] w fun e w' => e = .returned (.int .i64 (g.dataS i k)) ∧ Below w.heap.size w w' := by
  have h := fun w => of_any g 7 i k w hw1 hw2
  rw [of_data] at h
  generalize g.dataS i k = z at *
  dsimp only [Geo.v] at *
  have H := Lib.hid h; clear h
  go_enter Try.func54, Try.ntmps54
  go_wp2_with fail
  refine (H.out _).mono ?_
  rintro e w1 ⟨rfl, hB⟩
  go_wp2_with fail
  go_ret
  exact ⟨rfl, below_step ((Below.refl _ _).alloc (Nat.le_refl _) _) hB (by simp)⟩

def Geo.restS (g : Geo) : Int := if g.may = true then 4 * g.slots else 0
theorem head_may {g : Geo} {i : Int} (h : 0 ≤ g.headS i) : g.may = true ∧ 0 ≤ i ∧ i < g.slots := by
  unfold Geo.headS at h
  split at h
  · assumption
  · omega
theorem head_neg {g : Geo} {i : Int} (h : g.headS i < 0) (l : Int) : g.journalS i l = -1 := by
  unfold Geo.journalS
  rw [if_neg]
  rintro ⟨h1, h2, h3, -⟩
  unfold Geo.headS at h
  rw [if_pos ⟨h1, h2, h3⟩] at h
  have hk := Geo.may_ok h1
  have := hk.n1; have := hk.l1; have := hk.s1
  have : 0 ≤ i * (1 + g.journal) := Int.mul_nonneg h2 (by have := hk.j1; have := hk.p1; omega)
  omega
theorem journal_neg {g : Geo} {l : Int} (h : l < 0) (i : Int) : g.journalS i l = -1 := by
  unfold Geo.journalS
  rw [if_neg]
  rintro ⟨-, -, -, h4⟩
  omega
end Go.Proofs.Ytfonaceldfjneaa
