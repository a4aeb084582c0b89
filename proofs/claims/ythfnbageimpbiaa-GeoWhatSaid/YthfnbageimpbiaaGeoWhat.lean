/- The walks of geo: has, What, Bytes. -/
import Derived.Test.YthfnbageimpbiaaGeoLook
namespace Go.Proofs.Ythfnbageimpbiaa
open Go.RowKit

set_option maxHeartbeats 400000 in
theorem has_any (f m s kk : Int) (b : Bool) (w : World) (hk : IntKind.i64.wrap (s - f) = kk) (hb : b = decide (0 ≤ kk ∧ kk < m)) :
    Calls Try.prog 33 #[.agg #[.int .i64 f, .int .i64 m], .int .i64 s] w fun e w' => e = .returned (.tuple #[.int .i64 kk, .bool b]) ∧ Below w.heap.size w w' := by
  have HB := Lib.hid hb; clear hb
  by_cases h1 : 0 ≤ kk
  · by_cases h2 : kk < m
    · have hd : decide (kk < m) = true := by simp; omega
      have hd1 : decide (0 ≤ kk) = true := by simp; omega
      have hb2 : b = true := by rw [HB.out]; simp; omega
      have HB2 := Lib.hid hb2; clear hb2
      go_enter Try.func33, Try.ntmps33
      go_wp2_with fail
      go_quiet (fail)
      clear hk
      go_wp2_with fail
      go_ret2
      exact ⟨by rw [HB2.out]; rfl, below_drewN ((Below.refl _ _).alloc (Nat.le_refl _) _) _⟩
    · have hd : decide (kk < m) = false := by simp; omega
      have hd1 : decide (0 ≤ kk) = true := by simp; omega
      have hb2 : b = false := by rw [HB.out]; simp; omega
      have HB2 := Lib.hid hb2; clear hb2
      go_enter Try.func33, Try.ntmps33
      go_wp2_with fail
      go_quiet (fail)
      clear hk
      go_wp2_with fail
      go_ret2
      exact ⟨by rw [HB2.out]; rfl, below_drewN ((Below.refl _ _).alloc (Nat.le_refl _) _) _⟩
  · have hd1 : decide (0 ≤ kk) = false := by simp; omega
    have hb2 : b = false := by rw [HB.out]; simp; omega
    have HB2 := Lib.hid hb2; clear hb2
    go_enter Try.func33, Try.ntmps33
    go_wp2_with fail
    go_quiet (fail)
    clear hk
    go_wp2_with fail
    go_ret2
    exact ⟨by rw [HB2.out]; rfl, below_drewN ((Below.refl _ _).alloc (Nat.le_refl _) _) _⟩

theorem wrap_has (f m s : Int) (h1 : 0 ≤ f) (h2 : f ≤ 10000) (h4 : m ≤ 10000) (h5 : -9223372036854775808 ≤ s) (h6 : s ≤ 9223372036854775807) :
    ((0 ≤ IntKind.i64.wrap (s - f) ∧ IntKind.i64.wrap (s - f) < m) ↔ (0 ≤ s - f ∧ s - f < m)) ∧ ((0 ≤ s - f ∧ s - f < m) → IntKind.i64.wrap (s - f) = s - f) := by
  rw [IntKind.wrap_i64]
  omega
theorem rgs_bd (g : Geo) : ∀ r ∈ g.rgsM, 0 ≤ r.first ∧ r.first ≤ 10000 ∧ 0 ≤ r.many ∧ r.many ≤ 10000 ∧ 1 ≤ r.per ∧ r.per ≤ 100 := by
  intro r hr
  unfold Geo.rgsM at hr
  split at hr
  · rename_i hm
    have hok := Geo.may_ok hm
    have := hok.sj
    have := hok.bp
    obtain ⟨k1, k2, k3, k4, k5, k6, k7, k8, k9, k10, k11, k12, k13, k14, k15⟩ := hok
    simp only [Geo.rgs, List.mem_cons, List.not_mem_nil, or_false] at hr
    rcases hr with rfl | rfl | rfl | rfl | rfl | rfl <;> dsimp only <;> omega
  · cases hr

def whatR (r : Rg) (k : Int) : Int × Int × Int := if r.kind = 6 then (if k % r.per = 0 then (5, k / r.per, 0) else (6, k / r.per, k % r.per - 1)) else (r.kind, k / r.per, k % r.per)
def whatL : List Rg → Int → Int × Int × Int
  | [], _ => (0, 0, 0)
  | r :: l, s => if 0 ≤ s - r.first ∧ s - r.first < r.many then whatR r (s - r.first) else whatL l s
abbrev whatV (x : Int × Int × Int) : Value := .tuple #[.int .i8 x.1, .int .i64 x.2.1, .int .i64 x.2.2]
theorem whatL_drop {l : List Rg} {s : Int} {j : Nat} (h : j < l.length) : whatL (l.drop j) s = if 0 ≤ s - l[j].first ∧ s - l[j].first < l[j].many then whatR l[j] (s - l[j].first) else whatL (l.drop (j + 1)) s := by
  rw [List.drop_eq_getElem_cons h]; rfl
theorem whatL_end {l : List Rg} {s : Int} {j : Nat} (h : l.length ≤ j) : whatL (l.drop j) s = (0, 0, 0) := by
  rw [List.drop_of_length_le h]; rfl

set_option maxHeartbeats 2000000 in
set_option maxRecDepth 100000 in
theorem What_any (g : Geo) (s : Int) (w : World) (hs1 : -9223372036854775808 ≤ s) (hs2 : s ≤ 9223372036854775807) (hw1 : -9223372036854775808 ≤ g.wait) (hw2 : g.wait ≤ 9223372036854775807) :
    Calls Try.prog 8 #[g.v, .int .i64 s] w fun e w' => e = .returned (whatV (whatL g.rgsM s)) ∧ Below w.heap.size w w' := by
  have hreg := fun w => regions_any g w hw1 hw2
  have hrp : ∀ w e w', RgsPost w g e w' ↔ ∃ v, e = .returned v ∧ w'.ownsRow (w.heap.size + 1) 44 4 v g.rgsM.length (rcells g.rgsM) ∧ Below w.heap.size w w' := fun w e w' => Iff.rfl
  have hlen : g.rgsM.length ≤ 6 := by unfold Geo.rgsM; split <;> simp [Geo.rgs]
  have hbd := rgs_bd g
  generalize g.rgsM = rl at *
  obtain ⟨x, hx⟩ : ∃ x, x = whatL rl s := ⟨_, rfl⟩
  rw [← hx]
  dsimp only [Geo.v] at *
  have HX := Lib.hid hx; clear hx
  have HREG := Lib.hid hreg; clear hreg
  have HRP := Lib.hid hrp; clear hrp
  have HBD := Lib.hid hbd; clear hbd
  go_enter Try.func8, Try.ntmps8
  go_wp2_with fail
  refine (HREG.out _).mono ?_
  intro e w1 hpost
  rw [HRP.out] at hpost
  obtain ⟨v, rfl, hown, hB1⟩ := hpost
  have hB := below_step ((Below.refl _ _).alloc (Nat.le_refl _) _) hB1 (by simp)
  obtain ⟨A, c, rfl, -, -, hr⟩ := own_reads hown
  have HR := Lib.hid hr; clear hr hown hB1
  have HB := Lib.hid hB; clear hB
  go_wp2_with fail
  go_loopg [14] rl.length (fun gk i wr => ∃ jx : Nat, jx ≤ rl.length ∧ gk = rl.length - jx ∧ i = .int .i64 jx ∧ Hid (x = whatL (rl.drop jx) s) ∧ Below w1.heap.size w1 wr)
  case atStart => exact ⟨0, by omega, rfl, rfl, HX, Below.refl _ _⟩
  case round =>
    obtain ⟨jx, hj, rfl, rfl, HXJ, hBr⟩ := hrel
    have hB2 := below_step HB.out hBr HB.out.size
    by_cases hlt : jx < rl.length
    · obtain ⟨ad, rfl, had, x0, x1, x2, x3⟩ := reads_rg (HR.out.below hBr) hlt
      have hst := HXJ.out
      rw [whatL_drop hlt] at hst
      have hbb := HBD.out rl[jx] (List.getElem_mem _)
      generalize rl[jx] = r at *
      obtain ⟨rf, rm, rk, rp⟩ := r
      dsimp only at x0 x1 x2 x3 hst hbb
      obtain ⟨b1, b2, b3, b4, b5, b6⟩ := hbb
      obtain ⟨wh1, wh2⟩ := wrap_has rf rm s b1 b2 b4 hs1 hs2
      obtain ⟨kk, hkk⟩ : ∃ kk, IntKind.i64.wrap (s - rf) = kk := ⟨_, rfl⟩
      rw [hkk] at wh1 wh2
      have HKK := Lib.hid hkk; clear hkk
      have hfl : ∀ w, (Instr.field 44 (.agg #[.int .i64 rf, .int .i64 rm, .int .i8 rk, .int .i64 rp]) 0).run Try.prog w = .ok (.agg #[.int .i64 rf, .int .i64 rm]) w := fun _ => by kernel_rfl
      have HST := Lib.hid hst; clear hst
      have HB2 := Lib.hid hB2; clear hB2
      have HBR := Lib.hid hBr; clear hBr
      by_cases hin : 0 ≤ s - rf ∧ s - rf < rm
      · have hc1 := wh1.2 hin
        have hc2 := wh2 hin
        have hst := HST.out
        rw [if_pos hin, ← hc2] at hst
        have HHB : Hid (true = decide (0 ≤ kk ∧ kk < rm)) := (decide_eq_true hc1).symm
        obtain ⟨c1, c2⟩ := hc1
        have HS2 := Lib.hid hst
        clear hst HST wh1 wh2 hin hc2 HXJ
        go_wp2_with fail
        refine (has_any rf rm s kk true _ HKK.out HHB.out).mono ?_
        rintro e w3 ⟨rfl, hB3⟩
        have hbk := (Blk.new wr 44 #[.int .i64 rf, .int .i64 rm, .int .i8 rk, .int .i64 rp]).below hB3 (by simp)
        obtain ⟨q0, q1, q2, q3⟩ := hbk.cells4
        have HB3 := Lib.hid (below_step (HB2.out.alloc HB2.out.size _) hB3 (by have := HB2.out.size; simp; omega))
        clear hB3 hbk x0 x1 x2 x3
        have d0 : ¬ rp = 0 := by omega
        have d1 : IntKind.i64.wrap (kk.tdiv rp) = kk / rp := by
          rw [Int.tdiv_eq_ediv_of_nonneg c1]
          have := Int.ediv_nonneg c1 (show 0 ≤ rp by omega)
          have := Int.ediv_le_self rp c1
          exact IntWalk.i64_in _ (by omega)
        have d2 : kk.tmod rp = kk % rp := Int.tmod_eq_emod_of_nonneg c1
        have e1 := Int.emod_nonneg kk (b := rp) (by omega)
        have e2 := Int.emod_lt_of_pos kk (b := rp) (by omega)
        have hw := HS2.out
        unfold whatR at hw
        dsimp only at hw
        by_cases hk6 : rk = 6
        · subst hk6
          rw [if_pos rfl] at hw
          by_cases hz : kk % rp = 0
          · have hzb : (kk % rp == 0) = true := by simp [hz]
            rw [if_pos hz] at hw
            have HW := Lib.hid hw; clear hw HS2 hz
            go_wp2_with fail
            go_quiet (fail)
            clear d1 d2
            go_wp2_with fail
            go_ret3
            exact ⟨by rw [HW.out]; rfl, below_drewN HB3.out _⟩
          · have hzb : (kk % rp == 0) = false := by simp [hz]
            rw [if_neg hz] at hw
            have HW := Lib.hid hw; clear hw HS2 hz
            go_wp2_with fail
            go_quiet (fail)
            clear d1 d2
            go_wp2_with fail
            go_ret3
            exact ⟨by rw [HW.out]; rfl, below_drewN HB3.out _⟩
        · have hkb : (rk != 6) = true := by simp [hk6]
          rw [if_neg hk6] at hw
          have HW := Lib.hid hw; clear hw HS2 hk6
          go_wp2_with fail
          go_quiet (fail)
          clear d1 d2
          go_wp2_with fail
          go_ret3
          exact ⟨by rw [HW.out]; rfl, below_drewN HB3.out _⟩
      · have hst := HST.out
        rw [if_neg hin] at hst
        have HHB : Hid (false = decide (0 ≤ kk ∧ kk < rm)) := (decide_eq_false (fun h => hin (wh1.1 h))).symm
        have HS2 := Lib.hid hst
        clear hst HST wh1 wh2 hin HXJ
        go_wp2_with fail
        refine (has_any rf rm s kk false _ HKK.out HHB.out).mono ?_
        rintro e w3 ⟨rfl, hB3⟩
        have HB3 := Lib.hid (below_step (HBR.out.alloc HBR.out.size _) hB3 (by have := HBR.out.size; simp; omega))
        clear hB3 x0 x1 x2 x3
        go_wp2_with fail
        go_roundg (rl.length - (jx + 1))
        case rel => exact ⟨jx + 1, by omega, rfl, by go_num, HS2, HB3.out⟩
        case measure => omega
    · have hst := HXJ.out
      rw [whatL_end (by omega)] at hst
      have HW := Lib.hid hst; clear hst HXJ
      go_wp2_with fail
      go_ret3
      exact ⟨by rw [HW.out]; rfl, hB2⟩
end Go.Proofs.Ythfnbageimpbiaa
