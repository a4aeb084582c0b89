/- The walks of geo: within, May. -/
import Derived.Test.YtfonaceldfjneaaChecked
import Derived.Test.YtfonaceldfjneaaGeoPlain
import Derived.Test.YtfonaceldfjneaaWords2
import Derived.WalkKit
import Derived.WalkSpells
import Derived.WalkLawsBesides
import Derived.Deep.QuietTactic
import Derived.BigQuiet
import Derived.Lib.Hide
import Derived.Deep.LoopGhost
import Derived.Deep.DeepCutAuto
namespace Go.Proofs.Ytfonaceldfjneaa
open Go.RowKit

/-- numbers that stand one between the others -/
def upB (l : List Int) : Prop := ∀ t (h : t + 1 < l.length), l[t] ≤ l[t + 1]

set_option maxHeartbeats 1000000 in
theorem within_any (A : Option Addr) (c : Nat) (l : List Int) (b : Bool) (w : World) (hl : l.length ≤ 1000000) (hb : b = true ↔ upB l) (hr : Reads w w.heap.size 1 A l.length (icells l)) :
    Calls Try.prog 65 #[.slice A l.length c] w fun e w' => e = .returned (.bool b) ∧ Below w.heap.size w w' := by
  have HR := Lib.hid hr; clear hr
  have HB := Lib.hid hb; clear hb
  go_enter Try.func65, Try.ntmps65
  go_wp2_with fail
  go_loopg [3] l.length (fun k i wr => ∃ j : Nat, j ≤ l.length ∧ k = l.length - j ∧ i = .int .i64 ((j + 1 : Nat) : Int) ∧ (∀ t (h : t + 1 < l.length), t < j → l[t] ≤ l[t + 1]) ∧ Below w.heap.size w wr)
  case atStart => exact ⟨0, by omega, rfl, rfl, fun t _ h => absurd h (by omega), Below.refl _ _⟩
  case round =>
    obtain ⟨j, hj, rfl, rfl, hup, hB⟩ := hrel
    have HU := Lib.hid hup; clear hup
    by_cases hlt : j + 1 < l.length
    · obtain ⟨ad, rfl, _, hc1⟩ := (HR.out.below hB).cell_ hlt (icells_get l (j + 1) hlt)
      obtain ⟨ad', e', _, hc0⟩ := (HR.out.below hB).cell_ (show j < l.length by omega) (icells_get l j (by omega))
      injection e' with e'
      subst e'
      obtain ⟨x, hx⟩ : ∃ x, l[j]'(by omega) = x := ⟨_, rfl⟩
      obtain ⟨y, hy⟩ : ∃ y, l[j + 1] = y := ⟨_, rfl⟩
      rw [hx] at hc0
      rw [hy] at hc1
      have HX := Lib.hid hx; clear hx
      have HY := Lib.hid hy; clear hy
      have hc1' : wr.cell? ⟨ad.block, ad.off + (j + 1), none⟩ = some (.int .i64 y) := by simpa [Addr.add] using hc1
      have hwj : IntKind.i64.wrap (j : Int) = (j : Int) := wrap_i64_nat j (by omega)
      have hi1 : (0 : Int) ≤ (j : Int) := by omega
      have hi2 : (j : Int) < (l.length : Int) := by omega
      have hi3 : (0 : Int) ≤ (j : Int) + 1 := by omega
      have hi4 : (j : Int) + 1 < (l.length : Int) := by omega
      have hi5 : ((j : Int) + 1).toNat = j + 1 := by omega
      by_cases hle : x ≤ y
      · have hd : decide (y < x) = false := by simp; omega
        go_wp2_with fail
        go_quiet (fail)
        clear hwj hi5
        go_wp2_with fail
        go_roundg (l.length - (j + 1))
        case rel =>
          refine ⟨j + 1, by omega, rfl, by go_num, fun t h ht => ?_, below_drewN hB _⟩
          rcases Nat.lt_or_ge t j with h1 | h1
          · exact HU.out t h h1
          · obtain rfl : t = j := by omega
            rw [HX.out, HY.out]; exact hle
        case measure => omega
      · have hd : decide (y < x) = true := by simp; omega
        have hbf : b = false := by
          cases b with
          | false => rfl
          | true => exact absurd (by have := HB.out.1 rfl j hlt; rwa [HX.out, HY.out] at this) hle
        have HBF := Lib.hid hbf; clear hbf
        go_wp2_with fail
        go_quiet (fail)
        clear hwj hi5
        go_wp2_with fail
        go_ret
        exact ⟨by rw [HBF.out]; rfl, below_drewN hB _⟩
    · have hbt : b = true := HB.out.2 (fun t h => HU.out t h (by omega))
      have HBT := Lib.hid hbt; clear hbt
      go_wp2_with fail
      go_ret
      exact ⟨by rw [HBT.out]; rfl, hB⟩

theorem up3 (a b c : Int) : decide (a ≤ b ∧ b ≤ c) = true ↔ upB [a, b, c] := by
  rw [decide_eq_true_eq]
  constructor
  · rintro ⟨h1, h2⟩ t h
    match t, h with
    | 0, _ => exact h1
    | 1, _ => exact h2
  · intro h
    exact ⟨h 0 (by simp), h 1 (by simp)⟩
theorem up4 (a b c d : Int) : decide (a ≤ b ∧ b ≤ c ∧ c ≤ d) = true ↔ upB [a, b, c, d] := by
  rw [decide_eq_true_eq]
  constructor
  · rintro ⟨h1, h2, h3⟩ t h
    match t, h with
    | 0, _ => exact h1
    | 1, _ => exact h2
    | 2, _ => exact h3
  · intro h
    exact ⟨h 0 (by simp), h 1 (by simp), h 2 (by simp)⟩
theorem within3 (g c : Nat) (x y z : Int) (w : World) (hb : Blk w g 3 #[.int .i64 x, .int .i64 y, .int .i64 z]) :
    Calls Try.prog 65 #[.slice (some ⟨g, 0, none⟩) 3 c] w fun e w' => e = .returned (.bool (decide (x ≤ y ∧ y ≤ z))) ∧ Below w.heap.size w w' :=
  within_any _ c [x, y, z] _ w (by simp) (up3 x y z) (reads_blk hb rfl rfl)
theorem within4 (g c : Nat) (x y z u : Int) (w : World) (hb : Blk w g 3 #[.int .i64 x, .int .i64 y, .int .i64 z, .int .i64 u]) :
    Calls Try.prog 65 #[.slice (some ⟨g, 0, none⟩) 4 c] w fun e w' => e = .returned (.bool (decide (x ≤ y ∧ y ≤ z ∧ z ≤ u))) ∧ Below w.heap.size w w' :=
  within_any _ c [x, y, z, u] _ w (by simp) (up4 x y z u) (reads_blk hb rfl rfl)
end Go.Proofs.Ytfonaceldfjneaa
