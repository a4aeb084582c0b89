/- The statement GeoOnce: each sector of a geometry that may be is just one thing, which stands there, and none stands beyond: for any geometry. -/
import Derived.Test.YthfnbageimpbiaaGeoWakes
import Derived.Test.YthfnbageimpbiaaGeoRef
import Derived.Test.YthfnbageimpbiaaWhatPlain
import Derived.Test.YthfnbageimpbiaaFrameGeo
import Derived.Test.YthfnbageimpbiaaRows
import Derived.ProofKit
import Derived.OpenShut
import Derived.Below
namespace Go.Proofs.Ythfnbageimpbiaa.geoOnce
open Go.ChangeShapes Go.WideShapes Go.ChangeAt Go.RowKit Go.Joins
set_option linter.unusedVariables false

set_option maxHeartbeats 1000000 in
theorem sector_any (g : Geo) (k a b : Int) (w : World) (hb : b ≤ 10000) (hk : k = 1 ∨ k = 2 ∨ k = 3 ∨ k = 4 ∨ k = 5 ∨ k = 6 ∨ k = 7) (hw1 : -9223372036854775808 ≤ g.wait) (hw2 : g.wait ≤ 9223372036854775807) :
    Calls Try.prog 14 #[g.v, .int .i8 k, .int .i64 a, .int .i64 b] w fun e w' => e = .returned (.int .i64 (g.sectorS k a b)) ∧ Below w.heap.size w w' := by
  rcases hk with rfl | rfl | rfl | rfl | rfl | rfl | rfl
  · show Calls Try.prog 14 #[g.v, .int .i8 1, .int .i64 a, .int .i64 b] w fun e w' => e = .returned (.int .i64 0) ∧ Below w.heap.size w w'
    go_enter Try.func14, Try.ntmps14
    go_wp2_with fail
    go_ret
    exact ⟨rfl, (Below.refl _ _).alloc (Nat.le_refl _) _⟩
  · show Calls Try.prog 14 #[g.v, .int .i8 2, .int .i64 a, .int .i64 b] w fun e w' => e = .returned (.int .i64 (g.leaseS a)) ∧ Below w.heap.size w w'
    have h := fun w => Lease_any g a w  hw1 hw2
    generalize g.leaseS a = z at *
    dsimp only [Geo.v] at *
    have H := Lib.hid h; clear h
    go_enter Try.func14, Try.ntmps14
    go_wp2_with fail
    refine (H.out _).mono ?_
    rintro e w1 ⟨rfl, hB⟩
    go_wp2_with fail
    go_ret
    exact ⟨rfl, below_step ((Below.refl _ _).alloc (Nat.le_refl _) _) hB (by simp)⟩
  · show Calls Try.prog 14 #[g.v, .int .i8 3, .int .i64 a, .int .i64 b] w fun e w' => e = .returned (.int .i64 (g.paxosS a)) ∧ Below w.heap.size w w'
    have h := fun w => Paxos_any g a w  hw1 hw2
    generalize g.paxosS a = z at *
    dsimp only [Geo.v] at *
    have H := Lib.hid h; clear h
    go_enter Try.func14, Try.ntmps14
    go_wp2_with fail
    refine (H.out _).mono ?_
    rintro e w1 ⟨rfl, hB⟩
    go_wp2_with fail
    go_ret
    exact ⟨rfl, below_step ((Below.refl _ _).alloc (Nat.le_refl _) _) hB (by simp)⟩
  · show Calls Try.prog 14 #[g.v, .int .i8 4, .int .i64 a, .int .i64 b] w fun e w' => e = .returned (.int .i64 (g.logS a)) ∧ Below w.heap.size w w'
    have h := fun w => Log_any g a w  hw1 hw2
    generalize g.logS a = z at *
    dsimp only [Geo.v] at *
    have H := Lib.hid h; clear h
    go_enter Try.func14, Try.ntmps14
    go_wp2_with fail
    refine (H.out _).mono ?_
    rintro e w1 ⟨rfl, hB⟩
    go_wp2_with fail
    go_ret
    exact ⟨rfl, below_step ((Below.refl _ _).alloc (Nat.le_refl _) _) hB (by simp)⟩
  · show Calls Try.prog 14 #[g.v, .int .i8 5, .int .i64 a, .int .i64 b] w fun e w' => e = .returned (.int .i64 (g.headS a)) ∧ Below w.heap.size w w'
    have h := fun w => Head_any g a w  hw1 hw2
    generalize g.headS a = z at *
    dsimp only [Geo.v] at *
    have H := Lib.hid h; clear h
    go_enter Try.func14, Try.ntmps14
    go_wp2_with fail
    refine (H.out _).mono ?_
    rintro e w1 ⟨rfl, hB⟩
    go_wp2_with fail
    go_ret
    exact ⟨rfl, below_step ((Below.refl _ _).alloc (Nat.le_refl _) _) hB (by simp)⟩
  · show Calls Try.prog 14 #[g.v, .int .i8 6, .int .i64 a, .int .i64 b] w fun e w' => e = .returned (.int .i64 (g.journalS a b)) ∧ Below w.heap.size w w'
    have h := fun w => Journal_any g a b w (by omega) hw1 hw2
    generalize g.journalS a b = z at *
    dsimp only [Geo.v] at *
    have H := Lib.hid h; clear h
    go_enter Try.func14, Try.ntmps14
    go_wp2_with fail
    refine (H.out _).mono ?_
    rintro e w1 ⟨rfl, hB⟩
    go_wp2_with fail
    go_ret
    exact ⟨rfl, below_step ((Below.refl _ _).alloc (Nat.le_refl _) _) hB (by simp)⟩
  · show Calls Try.prog 14 #[g.v, .int .i8 7, .int .i64 a, .int .i64 b] w fun e w' => e = .returned (.int .i64 (g.dataS a b)) ∧ Below w.heap.size w w'
    have h := fun w => Data_any g a b w  hw1 hw2
    generalize g.dataS a b = z at *
    dsimp only [Geo.v] at *
    have H := Lib.hid h; clear h
    go_enter Try.func14, Try.ntmps14
    go_wp2_with fail
    refine (H.out _).mono ?_
    rintro e w1 ⟨rfl, hB⟩
    go_wp2_with fail
    go_ret
    exact ⟨rfl, below_step ((Below.refl _ _).alloc (Nat.le_refl _) _) hB (by simp)⟩

def manyS (n i : Int) : Int := if i < 0 then 0 else if i < n then i else n

set_option maxHeartbeats 4000000 in
set_option maxRecDepth 100000 in
theorem core (g : Geo) (w : World) (hw1 : -9223372036854775808 ≤ g.wait) (hw2 : g.wait ≤ 9223372036854775807) :
    Calls Try.prog 4 #[g.v] w fun e w' => e = .returned (.bool true) ∧ Below w.heap.size w w' := by
  have hmy := fun w => RMay_any g w
  have hto := fun w => Total_any g w hw1 hw2
  by_cases hm : g.may = true
  · rw [hm] at hmy
    have hts : g.totalS = g.total := by unfold Geo.totalS; rw [if_pos hm]
    rw [hts] at hto
    have hwh := fun s h1 h2 w => What_any g s w h1 h2 hw1 hw2
    have hse := fun k a b h1 h2 w => sector_any g k a b w h1 h2 hw1 hw2
    have hon := fun s => @what_once g hm s
    have hout := fun s => @what_out g (Geo.may_ok hm) s
    have hM := fun s => @whatM g hm s
    have htb := total_bd (Geo.may_ok hm)
    have sj := (Geo.may_ok hm).sj
    have bp := (Geo.may_ok hm).bp
    have htd : g.total = 1 + 2 * g.nodes + g.log + g.slots * (1 + g.journal) + g.blocks * g.per := rfl
    obtain ⟨k1, k2, k3, k4, k5, k6, k7, k8, k9, k10, k11, k12, k13, k14, k15⟩ := Geo.may_ok hm
    generalize g.total = n at *
    obtain ⟨t1, t2⟩ := htb
    have htb : (n == 1 + 2 * g.nodes + g.log + g.slots * (1 + g.journal) + g.blocks * g.per) = true := by simp [htd]
    have HTB := Lib.hid htb; clear htb htd
    clear hm hts
    dsimp only [Geo.v] at *
    have HMY := Lib.hid hmy; clear hmy
    have HTO := Lib.hid hto; clear hto
    have HWH := Lib.hid hwh; clear hwh
    have HSE := Lib.hid hse; clear hse
    have HON := Lib.hid hon; clear hon
    have HOUT := Lib.hid hout; clear hout
    have HMM := Lib.hid hM; clear hM
    go_enter Try.func4, Try.ntmps4
    have HG0 := Lib.hid (geoAt_new g w)
    go_wp2_with fail
    refine (HMY.out _).mono ?_
    rintro e w1 ⟨rfl, hB1⟩
    have hG := geoAt_keep HG0.out hB1
    clear hB1
    go_wp2_with fail
    refine (HTO.out _).mono ?_
    rintro e w2 ⟨rfl, hB1⟩
    have HG := Lib.hid (geoAt_keep hG hB1)
    clear hB1 hG
    go_wp2_with fail
    go_loopg [4, 5] (n.toNat + 2) (fun gk m i wr => ∃ j : Int, -1 ≤ j ∧ j ≤ n + 1 ∧ gk = (n + 1 - j).toNat ∧ i = .int .i64 j ∧ m = .int .i64 (manyS n j) ∧ GeoAt g w.heap.size w wr)
    case atStart => exact ⟨-1, by omega, by omega, by omega, rfl, rfl, HG.out⟩
    case round =>
      obtain ⟨j, j1, j2, rfl, rfl, rfl, hG⟩ := hrel
      by_cases hlt : j ≤ n
      · have HGr := Lib.hid hG
        by_cases hin : 0 ≤ j ∧ j < n
        · obtain ⟨k, a, b, hwhat, hk, hsec, hb⟩ := HON.out j hin.1 hin.2
          obtain ⟨i1, i2⟩ := hin
          have hw := HWH.out j (by omega) (by omega)
          have hs := HSE.out k a b hb hk
          rw [hwhat] at hw
          rw [hsec] at hs
          dsimp only [whatV] at hw
          have hk0 : (k == 0) = false := by simp; omega
          have hk1 : (k != 0) = true := by simp; omega
          have hj0 : decide (j < 0) = false := by simp; omega
          have hjn : (j == n) = false := by simp; omega
          have hm1 : manyS n j = j := by unfold manyS; rw [if_neg (by omega), if_pos i2]
          have hm2 : manyS n (j + 1) = j + 1 := by
            unfold manyS
            rw [if_neg (by omega)]
            split <;> omega
          rw [hm1]
          have HM2 := Lib.hid hm2
          have HW := Lib.hid hw
          have HS := Lib.hid hs
          clear hw hs hwhat hsec hk hm1 hm2
          go_wp2_with fail
          refine (HW.out _).mono ?_
          rintro e w3 ⟨rfl, hB1⟩
          have hG3 := geoAt_keep HGr.out hB1
          clear hB1 hG
          have HG3 := Lib.hid hG3
          go_wp2_with fail
          refine (HS.out _).mono ?_
          rintro e w4 ⟨rfl, hB1⟩
          have HG4 := Lib.hid (geoAt_keep HG3.out hB1)
          clear hB1 hG3
          go_wp2_with fail
          go_roundg ((n + 1 - (j + 1)).toNat)
          case rel => exact ⟨j + 1, by omega, by omega, rfl, rfl, by rw [HM2.out], HG4.out⟩
          case measure => omega
        · have hwhat := HMM.out j
          rw [HOUT.out j (by omega)] at hwhat
          have hw := HWH.out j (by omega) (by omega)
          rw [hwhat] at hw
          dsimp only [whatV] at hw
          have hm2 : manyS n (j + 1) = manyS n j := by
            unfold manyS
            rcases Int.lt_or_le j 0 with h | h
            · obtain rfl : j = -1 := by omega
              rw [if_neg (by omega), if_pos (by omega), if_pos (by omega)]; rfl
            · obtain rfl : j = n := by omega
              rw [if_neg (by omega), if_neg (by omega), if_neg (by omega), if_neg (by omega)]
          have HM2 := Lib.hid hm2
          have HW := Lib.hid hw
          clear hw hwhat hm2
          generalize manyS n j = mm at *
          by_cases h0 : j < 0
          · have hj0 : decide (j < 0) = true := by simp; omega
            clear hin
            go_wp2_with fail
            refine (HW.out _).mono ?_
            rintro e w3 ⟨rfl, hB1⟩
            have HG3 := Lib.hid (geoAt_keep HGr.out hB1)
            clear hB1 hG
            go_wp2_with fail
            go_roundg ((n + 1 - (j + 1)).toNat)
            case rel => exact ⟨j + 1, by omega, by omega, rfl, rfl, by rw [HM2.out], HG3.out⟩
            case measure => omega
          · have hj0 : decide (j < 0) = false := by simp; omega
            have hjn : (j == n) = true := by simp; omega
            clear hin
            go_wp2_with fail
            refine (HW.out _).mono ?_
            rintro e w3 ⟨rfl, hB1⟩
            have HG3 := Lib.hid (geoAt_keep HGr.out hB1)
            clear hB1 hG
            go_wp2_with fail
            go_roundg ((n + 1 - (j + 1)).toNat)
            case rel => exact ⟨j + 1, by omega, by omega, rfl, rfl, by rw [HM2.out], HG3.out⟩
            case measure => omega
      · have hm1 : manyS n j = n := by unfold manyS; rw [if_neg (by omega), if_neg (by omega)]
        rw [hm1]
        clear hm1
        have htb := HTB.out
        go_wp2_with fail
        refine (wakes04 _).mono ?_
        rintro e w3 ⟨rfl, hB1⟩
        have HG3 := Lib.hid (geoAt_keep hG hB1)
        clear hB1 hG htb
        go_wp2_with fail
        go_ret
        exact ⟨rfl, HG3.out.2.2.2.2.2.2.2.2.2⟩
  · have hm' : g.may = false := by simpa using hm
    rw [hm'] at hmy
    have hts : g.totalS = 0 := by unfold Geo.totalS; rw [if_neg hm]
    rw [hts] at hto
    clear hm hm' hts
    dsimp only [Geo.v] at *
    have HMY := Lib.hid hmy; clear hmy
    have HTO := Lib.hid hto; clear hto
    go_enter Try.func4, Try.ntmps4
    have HG0 := Lib.hid (geoAt_new g w)
    go_wp2_with fail
    refine (HMY.out _).mono ?_
    rintro e w1 ⟨rfl, hB1⟩
    have hG := geoAt_keep HG0.out hB1
    clear hB1
    go_wp2_with fail
    refine (HTO.out _).mono ?_
    rintro e w2 ⟨rfl, hB1⟩
    have HG := Lib.hid (geoAt_keep hG hB1)
    clear hB1 hG
    go_wp2_with fail
    refine (wakes04 _).mono ?_
    rintro e w3 ⟨rfl, hB1⟩
    have HG3 := Lib.hid (geoAt_keep HG.out hB1)
    clear hB1
    go_wp2_with fail
    go_ret
    exact ⟨rfl, HG3.out.2.2.2.2.2.2.2.2.2⟩

theorem walk (a0_0 a0_1 a0_2 a0_3 a0_4 a0_5 a0_6 a0_7 : Int) (w0_0 : (Lit.int .i64 a0_0).wf = true) (w0_1 : (Lit.int .i64 a0_1).wf = true) (w0_2 : (Lit.int .i64 a0_2).wf = true) (w0_3 : (Lit.int .i64 a0_3).wf = true) (w0_4 : (Lit.int .i64 a0_4).wf = true) (w0_5 : (Lit.int .i64 a0_5).wf = true) (w0_6 : (Lit.int .i64 a0_6).wf = true) (w0_7 : (Lit.int .i64 a0_7).wf = true) (w : World) :
    Calls Try.prog 4 #[.agg #[.int .i64 a0_0, .int .i64 a0_1, .int .i64 a0_2, .int .i64 a0_3, .int .i64 a0_4, .int .i64 a0_5, .int .i64 a0_6, .int .i64 a0_7]] w fun e w' => e = .returned (.bool true) ∧ Below w.heap.size w w' :=
  core (Geo.mk a0_0 a0_1 a0_2 a0_3 a0_4 a0_5 a0_6 a0_7) w (wf_i64 w0_7).1 (wf_i64 w0_7).2

theorem own : ownKnob Try.prog.godebug = none := by kernel_rfl
theorem laidOut : laidOutB Try.prog = true := by kernel_rfl
set_option maxRecDepth 100000 in
theorem lifted (os : Os) (started : os.Started) (H : Type) (enc : TypeId × Value → H) :
    ReturnsInHanded {} Try.checked os 4 .any (Rows.geoOnceSpec.pre6 enc Try.prog Try.f4 Rows.geoOnceRow.domain false) (Rows.geoOnceSpec.post enc Try.prog Try.f4 false true false false) := by
  refine returnsInHanded_of_change (C := Try.checked) own started (by kernel_rfl) Try.func4
    (ChangeSpec.witness6 (enc := enc) (C := Try.checked) false ⟨#[], #[.agg #[.int .i64 0, .int .i64 0, .int .i64 0, .int .i64 0, .int .i64 0, .int .i64 0, .int .i64 0, .int .i64 0]], []⟩ 8 (by kernel_rfl) (by kernel_rfl) (by kernel_rfl) (by kernel_rfl)) ?_
  intro W base args ds gs before hval0 hW hcnd _
  have hval : ∀ (j : Nat) t v, Try.f4.params[j]? = some t → args[j]? = some v → Value.okWide Try.prog W .any base t v := hval0
  have hW' := hW
  obtain ⟨p, q, hA0, hV, rfl, hfz, hnd⟩ := hW
  have hA : DataW.TrodAll enc Try.prog W 0 (fun _ => true) true Try.f4.params.toList args.toList ds p := hA0
  rw [Try.params4] at hA hval
  obtain ⟨v0, vs0, d0, ds0, p0, q0, hargs, rfl, rfl, h0, r0⟩ := trodAll_cons hA
  obtain ⟨rfl, rfl, rfl⟩ := trodAll_nil r0
  obtain rfl : args = #[v0] := by cases args; simp_all
  obtain ⟨rfl, rfl⟩ := trodVars_none hV
  have k0 := h0
  have lt0 : ∀ x ∈ p0, x.block < W.heap.size := by obtain ⟨m, hm⟩ := k0; exact DataW.trod_lt m _ _ _ hm
  obtain ⟨a0_0, a0_1, a0_2, a0_3, a0_4, a0_5, a0_6, a0_7, rfl, w0_0, w0_1, w0_2, w0_3, w0_4, w0_5, w0_6, w0_7⟩ := open_api_Geo_arg (hval 0 23 v0 rfl rfl) h0
  clear hA0 hval0
  refine (walk a0_0 a0_1 a0_2 a0_3 a0_4 a0_5 a0_6 a0_7 w0_0 w0_1 w0_2 w0_3 w0_4 w0_5 w0_6 w0_7 W).mono fun e W' ⟨he, bel⟩ => ?_
  subst he
  exact ⟨_, rfl, _, _, _, [], _, [], hW', trodAll_mk1 (shut_bool Try.underlying4 _), (trodAll_cons_mk (Below.trod laidOut (by kernel_rfl) (of_decide_eq_true (by kernel_rfl)) k0 bel lt0) trodAll_mk0), rfl, bel.frame _, fun h => by cases h⟩

/-- The statement. -/
theorem proved : Rows.GeoOnceSaid :=
  OpenClaim.holds_of_wide 4 Try.f4 rfl rfl rfl rfl rfl rfl rfl ⟨rfl, rfl, rfl, rfl, rfl⟩ rfl rfl rfl rfl rfl (by kernel_rfl) Try.func4 (by kernel_rfl)
    (of_decide_eq_true (by kernel_rfl)) (by unfold Func.isWrapper; first | (rw [if_pos (by decide +kernel)]; kernel_rfl) | (rw [if_neg (by decide +kernel)]; exact ⟨rfl, rfl⟩))
    (fun os started H enc _ => lifted os started H enc)
end Go.Proofs.Ythfnbageimpbiaa.geoOnce

