/- The statement GeoWhat: what stands at any sector is what the document's answer says: for any numbers, and at most 100 sectors' bytes. -/
import Derived.Test.YthfnbageimpbiaaGeoWakes
import Derived.Test.YthfnbageimpbiaaGeoRef
import Derived.Test.YthfnbageimpbiaaWhatPlain
import Derived.Test.YthfnbageimpbiaaFrameGeo
import Derived.Test.YthfnbageimpbiaaRows
import Derived.ProofKit
import Derived.OpenShut
import Derived.Below
namespace Go.Proofs.Ythfnbageimpbiaa.geoWhat
open Go.ChangeShapes Go.WideShapes Go.ChangeAt Go.RowKit Go.Joins
set_option linter.unusedVariables false


set_option maxHeartbeats 8000000 in
set_option maxRecDepth 100000 in
theorem RWhat_any (g : Geo) (s : Int) (w : World) (hs1 : -9223372036854775808 ≤ s) (hs2 : s ≤ 9223372036854775807) :
    Calls Try.prog 9 #[g.v, .int .i64 s] w fun e w' => e = .returned (whatV (whatL g.rgsM s)) ∧ Below w.heap.size w w' := by
  have hmy := fun w => RMay_any g w
  obtain ⟨x, hx⟩ : ∃ x, whatL g.rgsM s = x := ⟨_, rfl⟩
  rw [hx]
  by_cases hm : g.may = true
  case neg =>
    rw [whatN hm] at hx
    subst hx
    have hm' : g.may = false := by simpa using hm
    rw [hm'] at hmy
    clear hm hm'
    dsimp only [Geo.v, whatV] at *
    have HMY := Lib.hid hmy; clear hmy
    go_enter Try.func9, Try.ntmps9
    have HG0 := Lib.hid (geoAt_new g w)
    go_wp2_with fail
    refine (HMY.out _).mono ?_
    rintro e w1 ⟨rfl, hB1⟩
    have HG := Lib.hid (geoAt_keep HG0.out hB1)
    clear hB1
    go_wp2_with fail
    go_ret3
    exact ⟨rfl, HG.out.2.2.2.2.2.2.2.2.2⟩
  have ok := Geo.may_ok hm
  rw [whatM hm] at hx
  rw [hm] at hmy
  have hto := fun w => RTotal_any g w
  have hts : g.totalS = g.total := by unfold Geo.totalS; rw [if_pos hm]
  rw [hts] at hto
  have htb := total_bd ok
  have hle := fun i w => RLease_any g i w
  have hpa := fun i w => RPaxos_any g i w
  have hlo := fun i w => RLog_any g i w
  have hhe := fun i w => RHead_any g i w
  have hjo := fun i l w => RJournal_any g i l w
  have hda := fun w => RData_any g 0 0 w
  have sj := ok.sj
  have bp := ok.bp
  obtain ⟨k1, k2, k3, k4, k5, k6, k7, k8, k9, k10, k11, k12, k13, k14, k15⟩ := id ok
  have vle : ∀ i, 0 ≤ i → i < g.nodes → g.leaseS i = 1 + i := fun i a b => by unfold Geo.leaseS; rw [if_pos ⟨hm, a, b⟩]
  have vpa : ∀ i, 0 ≤ i → i < g.nodes → g.paxosS i = 1 + g.nodes + i := fun i a b => by unfold Geo.paxosS; rw [if_pos ⟨hm, a, b⟩]
  have vlo : ∀ i, 0 ≤ i → i < g.log → g.logS i = 1 + 2 * g.nodes + i := fun i a b => by unfold Geo.logS; rw [if_pos ⟨hm, a, b⟩]
  have vhe : ∀ i, 0 ≤ i → i < g.slots → g.headS i = 1 + 2 * g.nodes + g.log + i * (1 + g.journal) := fun i a b => by unfold Geo.headS; rw [if_pos ⟨hm, a, b⟩]
  have vjo : ∀ i k, 0 ≤ i → i < g.slots → 0 ≤ k → k < g.journal → g.journalS i k = 1 + 2 * g.nodes + g.log + i * (1 + g.journal) + 1 + k := fun i k a b c d => by unfold Geo.journalS; rw [if_pos ⟨hm, a, b, c⟩, Int.emod_eq_of_lt c d]
  have vda : g.dataS 0 0 = g.atD := by unfold Geo.dataS Geo.atD; rw [if_pos ⟨hm, by omega, by omega, by omega, by omega⟩]; omega
  have xle : ∀ i, 0 ≤ i → i < g.nodes → 1 + i = s → x = (2, i, 0) := fun i a b c => by rw [← hx, ← c, what_lease a b]
  have xpa : ∀ i, 0 ≤ i → i < g.nodes → 1 + g.nodes + i = s → x = (3, i, 0) := fun i a b c => by rw [← hx, ← c, what_paxos ok a b]
  have xlo : ∀ i, 0 ≤ i → i < g.log → 1 + 2 * g.nodes + i = s → x = (4, i, 0) := fun i a b c => by rw [← hx, ← c, what_log ok a b]
  have xhe : ∀ i, 0 ≤ i → i < g.slots → 1 + 2 * g.nodes + g.log + i * (1 + g.journal) = s → x = (5, i, 0) := fun i a b c => by
    have := what_j ok a b (k := 0) (by omega) (by omega)
    rw [← hx, ← c]
    simpa using this
  have xjo : ∀ i k, 0 ≤ i → i < g.slots → 0 ≤ k → k < g.journal → 1 + 2 * g.nodes + g.log + i * (1 + g.journal) + 1 + k = s → x = (6, i, k) := fun i k a b c d e => by
    have := what_j ok a b (k := k + 1) (by omega) (by omega)
    rw [if_neg (by omega), show k + 1 - 1 = k by omega, show 1 + 2 * g.nodes + g.log + i * (1 + g.journal) + (k + 1) = 1 + 2 * g.nodes + g.log + i * (1 + g.journal) + 1 + k by omega] at this
    rw [← hx, ← e, this]
  have xda : g.atD ≤ s → s < g.total → x = (7, (s - g.atD) / g.per, (s - g.atD) % g.per) := fun a b => by rw [← hx, what_data ok a b]
  have xou : s < 0 ∨ g.total ≤ s → x = (0, 0, 0) := fun a => by rw [← hx, what_out ok a]
  have xsu : s = 0 → x = (1, 0, 0) := fun a => by rw [← hx, a, what_super]
  have hatd : g.atD = 1 + 2 * g.nodes + g.log + g.slots * (1 + g.journal) := rfl
  have hatd1 : g.atD ≤ 10000 := by omega
  have hatd0 : 0 ≤ g.atD := by omega
  rw [vda] at hda
  obtain ⟨t1, t2⟩ := htb
  have HATD := Lib.hid hatd; clear hatd
  generalize g.atD = D at *
  generalize g.total = n at *
  dsimp only [Geo.v, whatV] at *
  have HMY := Lib.hid hmy; have HTO := Lib.hid hto; have HLE := Lib.hid hle; have HPA := Lib.hid hpa; have HLO := Lib.hid hlo; have HHE := Lib.hid hhe; have HJO := Lib.hid hjo; have HDA := Lib.hid hda
  have VLE := Lib.hid vle; have VPA := Lib.hid vpa; have VLO := Lib.hid vlo; have VHE := Lib.hid vhe; have VJO := Lib.hid vjo
  have XLE := Lib.hid xle; have XPA := Lib.hid xpa; have XLO := Lib.hid xlo; have XHE := Lib.hid xhe; have XJO := Lib.hid xjo; have XDA := Lib.hid xda; have XOU := Lib.hid xou; have XSU := Lib.hid xsu
  clear hmy hto hle hpa hlo hhe hjo hda vle vpa vlo vhe vjo vda xle xpa xlo xhe xjo xda xou xsu hx hm ok hts
  go_enter Try.func9, Try.ntmps9
  have HG0 := Lib.hid (geoAt_new g w)
  go_wp2_with fail
  refine (HMY.out _).mono ?_
  rintro e w1 ⟨rfl, hB1⟩
  have hG := geoAt_keep HG0.out hB1
  clear hB1
  by_cases s0 : s < 0
  · obtain rfl := XOU.out (.inl s0)
    go_wp2_with fail
    go_ret3
    exact ⟨rfl, hG.2.2.2.2.2.2.2.2.2⟩
  have s0' : 0 ≤ s := by omega
  clear s0
  have HG := Lib.hid hG
  go_wp2_with fail
  refine (HTO.out _).mono ?_
  rintro e w2 ⟨rfl, hB1⟩
  have hG2 := geoAt_keep HG.out hB1
  clear hB1 hG HG
  by_cases s1 : n ≤ s
  · obtain rfl := XOU.out (.inr s1)
    go_wp2_with fail
    go_ret3
    exact ⟨rfl, hG2.2.2.2.2.2.2.2.2.2⟩
  have s1' : s < n := by omega
  clear s1
  by_cases s2 : s = 0
  · obtain rfl := XSU.out s2
    have s2' : (s == 0) = true := by simp [s2]
    clear s2
    go_wp2_with fail
    go_ret3
    exact ⟨rfl, hG2.2.2.2.2.2.2.2.2.2⟩
  have s2' : (s == 0) = false := by simp [s2]
  have s2'' : 1 ≤ s := by omega
  clear s2
  have HG2 := Lib.hid hG2
  go_wp2_with fail
  clear hG2
  go_loopg [7] g.nodes.toNat (fun gk i wr => ∃ j : Int, 0 ≤ j ∧ j ≤ g.nodes ∧ gk = (g.nodes - j).toNat ∧ i = .int .i64 j ∧ 1 + j ≤ s ∧ (s < 1 + g.nodes ∨ 1 + g.nodes + j ≤ s) ∧ GeoAt g w.heap.size w wr)
  case atStart => exact ⟨0, by omega, by omega, by omega, rfl, by omega, by omega, HG2.out⟩
  case round =>
    obtain ⟨j, j1, j2, rfl, rfl, j3, j4, hG⟩ := hrel
    by_cases hlt : j < g.nodes
    · have hl := HLE.out j
      rw [VLE.out j j1 hlt] at hl
      have hp := HPA.out j
      rw [VPA.out j j1 hlt] at hp
      have HL := Lib.hid hl; clear hl
      have HP := Lib.hid hp; clear hp
      have HGr := Lib.hid hG
      go_wp2_with fail
      refine (HL.out _).mono ?_
      rintro e w3 ⟨rfl, hB1⟩
      have hG3 := geoAt_keep HGr.out hB1
      clear hB1 hG
      by_cases h1 : 1 + j = s
      · have hb : (1 + j == s) = true := by simp [h1]
        obtain rfl := XLE.out j j1 hlt h1
        clear h1
        go_wp2_with fail
        go_ret3
        exact ⟨rfl, hG3.2.2.2.2.2.2.2.2.2⟩
      · have hb : (1 + j == s) = false := by simp [h1]
        have HG3 := Lib.hid hG3
        go_wp2_with fail
        refine (HP.out _).mono ?_
        rintro e w4 ⟨rfl, hB1⟩
        have hG4 := geoAt_keep HG3.out hB1
        clear hB1 hG3
        by_cases h2 : 1 + g.nodes + j = s
        · have hb2 : (1 + g.nodes + j == s) = true := by simp [h2]
          obtain rfl := XPA.out j j1 hlt h2
          clear h1 h2
          go_wp2_with fail
          go_ret3
          exact ⟨rfl, hG4.2.2.2.2.2.2.2.2.2⟩
        · have hb2 : (1 + g.nodes + j == s) = false := by simp [h2]
          have HG4 := Lib.hid hG4
          have H1 := Lib.hid h1
          have H2 := Lib.hid h2
          clear h1 h2
          go_wp2_with fail
          go_roundg ((g.nodes - (j + 1)).toNat)
          case rel => exact ⟨j + 1, by omega, by omega, rfl, rfl, by have := H1.out; omega, by have := H1.out; have := H2.out; omega, HG4.out⟩
          case measure => omega
    · have s3 : 1 + 2 * g.nodes ≤ s := by omega
      have HGr := Lib.hid hG
      go_wp2_with fail
      clear hG
      go_loopg [8] g.log.toNat (fun gk i wr => ∃ j : Int, 0 ≤ j ∧ j ≤ g.log ∧ gk = (g.log - j).toNat ∧ i = .int .i64 j ∧ 1 + 2 * g.nodes + j ≤ s ∧ GeoAt g w.heap.size w wr)
      case atStart => exact ⟨0, by omega, by omega, by omega, rfl, by omega, HGr.out⟩
      case round =>
        obtain ⟨jl, l1, l2, rfl, rfl, l3, hG⟩ := hrel
        by_cases hlt2 : jl < g.log
        · have hl := HLO.out jl
          rw [VLO.out jl l1 hlt2] at hl
          have HL := Lib.hid hl; clear hl
          have HGl := Lib.hid hG
          go_wp2_with fail
          refine (HL.out _).mono ?_
          rintro e w3 ⟨rfl, hB1⟩
          have hG3 := geoAt_keep HGl.out hB1
          clear hB1 hG
          by_cases h1 : 1 + 2 * g.nodes + jl = s
          · have hb : (1 + 2 * g.nodes + jl == s) = true := by simp [h1]
            obtain rfl := XLO.out jl l1 hlt2 h1
            clear h1
            go_wp2_with fail
            go_ret3
            exact ⟨rfl, hG3.2.2.2.2.2.2.2.2.2⟩
          · have hb : (1 + 2 * g.nodes + jl == s) = false := by simp [h1]
            have HG3 := Lib.hid hG3
            have H1 := Lib.hid h1
            clear h1
            go_wp2_with fail
            go_roundg ((g.log - (jl + 1)).toNat)
            case rel => exact ⟨jl + 1, by omega, by omega, rfl, rfl, by have := H1.out; omega, HG3.out⟩
            case measure => omega
        · have s4 : 1 + 2 * g.nodes + g.log ≤ s := by omega
          have HGl := Lib.hid hG
          go_wp2_with fail
          clear hG
          go_loopg [9] g.slots.toNat (fun gk i wr => ∃ j : Int, 0 ≤ j ∧ j ≤ g.slots ∧ gk = (g.slots - j).toNat ∧ i = .int .i64 j ∧ 1 + 2 * g.nodes + g.log + j * (1 + g.journal) ≤ s ∧ GeoAt g w.heap.size w wr)
          case atStart => exact ⟨0, by omega, by omega, by omega, rfl, by omega, HGl.out⟩
          case round =>
            obtain ⟨js, r1, r2, rfl, rfl, r3, hG⟩ := hrel
            by_cases hlt3 : js < g.slots
            · have hl := HHE.out js
              rw [VHE.out js r1 hlt3] at hl
              have HL := Lib.hid hl; clear hl
              have HGs := Lib.hid hG
              have hmul : (js + 1) * (1 + g.journal) = js * (1 + g.journal) + (1 + g.journal) := by rw [Int.add_mul]; omega
              have HMUL := Lib.hid hmul; clear hmul
              have hxj := fun k => XJO.out js k r1 hlt3
              have hvj := fun k => VJO.out js k r1 hlt3
              have hxh := XHE.out js r1 hlt3
              obtain ⟨hd, hhd⟩ : ∃ hd, 1 + 2 * g.nodes + g.log + js * (1 + g.journal) = hd := ⟨_, rfl⟩
              rw [hhd] at HL r3 hxh
              simp only [hhd] at hxj hvj
              have HHD := Lib.hid hhd; clear hhd
              have HXJ := Lib.hid hxj; clear hxj
              have HVJ := Lib.hid hvj; clear hvj
              have HXH := Lib.hid hxh; clear hxh
              go_wp2_with fail
              refine (HL.out _).mono ?_
              rintro e w3 ⟨rfl, hB1⟩
              have hG3 := geoAt_keep HGs.out hB1
              clear hB1 hG
              by_cases h1 : hd = s
              · have hb : (hd == s) = true := by simp [h1]
                obtain rfl := HXH.out h1
                clear h1
                go_wp2_with fail
                go_ret3
                exact ⟨rfl, hG3.2.2.2.2.2.2.2.2.2⟩
              · have hb : (hd == s) = false := by simp [h1]
                have HG3 := Lib.hid hG3
                have h1' : hd + 1 ≤ s := by omega
                clear h1
                go_wp2_with fail
                clear hG3
                go_loopg [10] g.journal.toNat (fun gk i wr => ∃ j : Int, 0 ≤ j ∧ j ≤ g.journal ∧ gk = (g.journal - j).toNat ∧ i = .int .i64 j ∧ hd + 1 + j ≤ s ∧ GeoAt g w.heap.size w wr)
                case atStart => exact ⟨0, by omega, by omega, by omega, rfl, by omega, HG3.out⟩
                case round =>
                  obtain ⟨jk, q1, q2, rfl, rfl, q3, hG⟩ := hrel
                  by_cases hlt4 : jk < g.journal
                  · have hl := HJO.out js jk
                    rw [HVJ.out jk q1 hlt4] at hl
                    have HL4 := Lib.hid hl; clear hl
                    have HGk := Lib.hid hG
                    go_wp2_with fail
                    refine (HL4.out _).mono ?_
                    rintro e w3 ⟨rfl, hB1⟩
                    have hG4 := geoAt_keep HGk.out hB1
                    clear hB1 hG
                    by_cases h1 : hd + 1 + jk = s
                    · have hb : (hd + 1 + jk == s) = true := by simp [h1]
                      obtain rfl := HXJ.out jk q1 hlt4 h1
                      clear h1
                      go_wp2_with fail
                      go_ret3
                      exact ⟨rfl, hG4.2.2.2.2.2.2.2.2.2⟩
                    · have hb : (hd + 1 + jk == s) = false := by simp [h1]
                      have HG4 := Lib.hid hG4
                      have H1 := Lib.hid h1
                      clear h1
                      go_wp2_with fail
                      go_roundg ((g.journal - (jk + 1)).toNat)
                      case rel => exact ⟨jk + 1, by omega, by omega, rfl, rfl, by have := H1.out; omega, HG4.out⟩
                      case measure => omega
                  · have HGk := Lib.hid hG
                    go_wp2_with fail
                    go_roundg ((g.slots - (js + 1)).toNat)
                    case rel => exact ⟨js + 1, by omega, by omega, rfl, rfl, by rw [HMUL.out]; have := HHD.out; omega, HGk.out⟩
                    case measure => omega
            · obtain rfl : js = g.slots := by omega
              have s5 : D ≤ s := by have := HATD.out; omega
              have hx := XDA.out s5 s1'
              have HX := Lib.hid hx; clear hx
              have HGs := Lib.hid hG
              have c1 : 0 ≤ s - D := by omega
              go_wp2_with fail
              refine (HDA.out _).mono ?_
              rintro e w3 ⟨rfl, hB1⟩
              have hG3 := geoAt_keep HGs.out hB1
              clear hB1 hG
              have HG3 := Lib.hid hG3
              have d0 : ¬ g.per = 0 := by omega
              have d1 : IntKind.i64.wrap ((s - D).tdiv g.per) = (s - D) / g.per := by
                rw [Int.tdiv_eq_ediv_of_nonneg c1]
                have := Int.ediv_nonneg c1 (show 0 ≤ g.per by omega)
                have := Int.ediv_le_self g.per c1
                exact IntWalk.i64_in _ (by omega)
              have d2 : (s - D).tmod g.per = (s - D) % g.per := Int.tmod_eq_emod_of_nonneg c1
              go_wp2_with fail
              go_quiet (fail)
              clear d1 d2
              go_wp2_with fail
              go_ret3
              exact ⟨by rw [HX.out]; rfl, below_drewN HG3.out.2.2.2.2.2.2.2.2.2 _⟩

set_option maxHeartbeats 2000000 in
set_option maxRecDepth 100000 in
theorem core (g : Geo) (s : Int) (A : Option Addr) (c : Nat) (l : List ByteArray) (w : World) (hr : Reads w w.heap.size 1 A l.length (scells l)) (hs1 : -9223372036854775808 ≤ s) (hs2 : s ≤ 9223372036854775807) (hw1 : -9223372036854775808 ≤ g.wait) (hw2 : g.wait ≤ 9223372036854775807) :
    Calls Try.prog 3 #[g.v, .int .i64 s, .slice A l.length c] w fun e w' => e = .returned (.bool true) ∧ Below w.heap.size w w' := by
  have h1 := fun w => What_any g s w hs1 hs2 hw1 hw2
  have h2 := fun w => RWhat_any g s w hs1 hs2
  generalize whatL g.rgsM s = x at *
  obtain ⟨k, a, b⟩ := x
  dsimp only [Geo.v, whatV] at *
  have H1 := Lib.hid h1; clear h1
  have H2 := Lib.hid h2; clear h2
  have HR := Lib.hid hr; clear hr
  have HG0 := Lib.hid (geoAt_new g w)
  by_cases hl : l.length ≤ 100
  · go_enter Try.func3, Try.ntmps3
    go_wp2_with fail
    refine (H1.out _).mono ?_
    rintro e w1 ⟨rfl, hB1⟩
    have hG := geoAt_keep HG0.out hB1
    have HG := Lib.hid hG
    clear hB1
    go_wp2_with fail
    refine (H2.out _).mono ?_
    rintro e w2 ⟨rfl, hB1⟩
    have HG2 := Lib.hid (geoAt_keep HG.out hB1)
    clear hB1 hG
    go_wp2_with fail
    refine (Bytes_any A c l _ (by omega) ((HR.out.below HG2.out.2.2.2.2.2.2.2.2.2).more HG2.out.2.2.2.2.2.2.2.2.2.size)).mono ?_
    rintro e w' ⟨rfl, rfl⟩
    go_wp2_with fail
    refine (RBytes_any A c l _ (by omega) ((HR.out.below HG2.out.2.2.2.2.2.2.2.2.2).more HG2.out.2.2.2.2.2.2.2.2.2.size)).mono ?_
    rintro e w' ⟨rfl, rfl⟩
    generalize bytesW l = bl at *
    go_wp2_with fail
    refine (wakes04 _).mono ?_
    rintro e w3 ⟨rfl, hB1⟩
    have HG3 := Lib.hid (geoAt_keep HG2.out hB1)
    clear hB1
    go_wp2_with fail
    go_ret
    exact ⟨rfl, HG3.out.2.2.2.2.2.2.2.2.2⟩
  · have hl' : 100 < l.length := by omega
    clear hl
    go_enter Try.func3, Try.ntmps3
    go_wp2_with fail
    refine (wakes04 _).mono ?_
    rintro e w3 ⟨rfl, hB1⟩
    have HG3 := Lib.hid (geoAt_keep HG0.out hB1)
    clear hB1
    go_wp2_with fail
    go_ret
    exact ⟨rfl, HG3.out.2.2.2.2.2.2.2.2.2⟩

theorem walk (a0_0 a0_1 a0_2 a0_3 a0_4 a0_5 a0_6 a0_7 : Int) (w0_0 : (Lit.int .i64 a0_0).wf = true) (w0_1 : (Lit.int .i64 a0_1).wf = true) (w0_2 : (Lit.int .i64 a0_2).wf = true) (w0_3 : (Lit.int .i64 a0_3).wf = true) (w0_4 : (Lit.int .i64 a0_4).wf = true) (w0_5 : (Lit.int .i64 a0_5).wf = true) (w0_6 : (Lit.int .i64 a0_6).wf = true) (w0_7 : (Lit.int .i64 a0_7).wf = true) (a1 : Int) (w1 : (Lit.int .i64 a1).wf = true) (a2 : Option Addr) (z2 : List ByteArray) (c2 : Nat) (w : World) (w2 : IsStrs w a2 z2 c2) :
    Calls Try.prog 3 #[.agg #[.int .i64 a0_0, .int .i64 a0_1, .int .i64 a0_2, .int .i64 a0_3, .int .i64 a0_4, .int .i64 a0_5, .int .i64 a0_6, .int .i64 a0_7], .int .i64 a1, .slice a2 z2.length c2] w fun e w' => e = .returned (.bool true) ∧ Below w.heap.size w w' :=
  core (Geo.mk a0_0 a0_1 a0_2 a0_3 a0_4 a0_5 a0_6 a0_7) a1 a2 c2 z2 w w2.1 (wf_i64 w1).1 (wf_i64 w1).2 (wf_i64 w0_7).1 (wf_i64 w0_7).2

theorem own : ownKnob Try.prog.godebug = none := by kernel_rfl
theorem laidOut : laidOutB Try.prog = true := by kernel_rfl
set_option maxRecDepth 100000 in
theorem lifted (os : Os) (started : os.Started) (H : Type) (enc : TypeId × Value → H) :
    ReturnsInHanded {} Try.checked os 3 .any (Rows.geoWhatSpec.pre6 enc Try.prog Try.f3 Rows.geoWhatRow.domain false) (Rows.geoWhatSpec.post enc Try.prog Try.f3 false true false false) := by
  refine returnsInHanded_of_change (C := Try.checked) own started (by kernel_rfl) Try.func3
    (ChangeSpec.witness6 (enc := enc) (C := Try.checked) false ⟨#[], #[.agg #[.int .i64 0, .int .i64 0, .int .i64 0, .int .i64 0, .int .i64 0, .int .i64 0, .int .i64 0, .int .i64 0], .int .i64 0, .slice none 0 0], []⟩ 8 (by kernel_rfl) (by kernel_rfl) (by kernel_rfl) (by kernel_rfl)) ?_
  intro W base args ds gs before hval0 hW hcnd _
  have hval : ∀ (j : Nat) t v, Try.f3.params[j]? = some t → args[j]? = some v → Value.okWide Try.prog W .any base t v := hval0
  have hW' := hW
  obtain ⟨p, q, hA0, hV, rfl, hfz, hnd⟩ := hW
  have hA : DataW.TrodAll enc Try.prog W 0 (fun _ => true) true Try.f3.params.toList args.toList ds p := hA0
  rw [Try.params3] at hA hval
  obtain ⟨v0, vs0, d0, ds0, p0, q0, hargs, rfl, rfl, h0, r0⟩ := trodAll_cons hA
  obtain ⟨v1, vs1, d1, ds1, p1, q1, rfl, rfl, rfl, h1, r1⟩ := trodAll_cons r0
  obtain ⟨v2, vs2, d2, ds2, p2, q2, rfl, rfl, rfl, h2, r2⟩ := trodAll_cons r1
  obtain ⟨rfl, rfl, rfl⟩ := trodAll_nil r2
  obtain rfl : args = #[v0, v1, v2] := by cases args; simp_all
  obtain ⟨rfl, rfl⟩ := trodVars_none hV
  have k0 := h0
  have lt0 : ∀ x ∈ p0, x.block < W.heap.size := by obtain ⟨m, hm⟩ := k0; exact DataW.trod_lt m _ _ _ hm
  obtain ⟨a0_0, a0_1, a0_2, a0_3, a0_4, a0_5, a0_6, a0_7, rfl, w0_0, w0_1, w0_2, w0_3, w0_4, w0_5, w0_6, w0_7⟩ := open_api_Geo_arg (hval 0 23 v0 rfl rfl) h0
  have k1 := h1
  have lt1 : ∀ x ∈ p1, x.block < W.heap.size := by obtain ⟨m, hm⟩ := k1; exact DataW.trod_lt m _ _ _ hm
  obtain ⟨a1, rfl, -, -, w1⟩ := open_int Try.underlying3 (hval 1 3 v1 rfl rfl) h1
  have k2 := h2
  have lt2 : ∀ x ∈ p2, x.block < W.heap.size := by obtain ⟨m, hm⟩ := k2; exact DataW.trod_lt m _ _ _ hm
  obtain ⟨a2, z2, c2, rfl, w2⟩ : ∃ (A : Option Addr) (zs : List ByteArray) (c : Nat), v2 = .slice A zs.length c ∧ IsStrs W A zs c :=
    open_strs_arg Try.underlying24 Try.underlying9 (by kernel_rfl) (hval 2 24 v2 rfl rfl) h2
  clear hA0 hval0
  refine (walk a0_0 a0_1 a0_2 a0_3 a0_4 a0_5 a0_6 a0_7 w0_0 w0_1 w0_2 w0_3 w0_4 w0_5 w0_6 w0_7 a1 w1 a2 z2 c2 W w2).mono fun e W' ⟨he, bel⟩ => ?_
  subst he
  exact ⟨_, rfl, _, _, _, [], _, [], hW', trodAll_mk1 (shut_bool Try.underlying4 _), (trodAll_cons_mk (Below.trod laidOut (by kernel_rfl) (of_decide_eq_true (by kernel_rfl)) k0 bel lt0) (trodAll_cons_mk (Below.trod laidOut (by kernel_rfl) (of_decide_eq_true (by kernel_rfl)) k1 bel lt1) (trodAll_cons_mk (Below.trod laidOut (by kernel_rfl) (of_decide_eq_true (by kernel_rfl)) k2 bel lt2) trodAll_mk0))), rfl, bel.frame _, fun h => by cases h⟩

/-- The statement. -/
theorem proved : Rows.GeoWhatSaid :=
  OpenClaim.holds_of_wide 3 Try.f3 rfl rfl rfl rfl rfl rfl rfl ⟨rfl, rfl, rfl, rfl, rfl⟩ rfl rfl rfl rfl rfl (by kernel_rfl) Try.func3 (by kernel_rfl)
    (of_decide_eq_true (by kernel_rfl)) (by unfold Func.isWrapper; first | (rw [if_pos (by decide +kernel)]; kernel_rfl) | (rw [if_neg (by decide +kernel)]; exact ⟨rfl, rfl⟩))
    (fun os started H enc _ => lifted os started H enc)
end Go.Proofs.Ythfnbageimpbiaa.geoWhat

