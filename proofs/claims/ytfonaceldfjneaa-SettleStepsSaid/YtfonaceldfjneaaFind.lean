/- The walks of geo: find, at, of. -/
import Derived.Test.YtfonaceldfjneaaRegions2
namespace Go.Proofs.Ytfonaceldfjneaa
open Go.RowKit

/-- a result that is a struct in a block of its own -/
theorem ret_blk {P : Program} {fn : Func} {p : Tmp} {ty : TypeId} {R : Ending → World → Prop} {a : Act} {w : World} {g : Nat} {cs : Array Value} {d : TypeDesc} (h : fn.results = #[.cell p ty])
    (hp : a.tmps.getD p undef = .pointer (some ⟨g, 0, none⟩)) (hb : Blk w g ty cs) (hu : P.underlying ty = some d) (hd : (match d with | .struct _ | .array _ _ => true | _ => false) = true) (hi : (P.info? ty).map (·.size) = some cs.size)
    (hdf : a.defers = []) (hR : R (.returned (.agg cs)) w) : bodyPost P fn R .ret a w :=
  bodyPost_ret (v := .agg cs) (results_cell_row h _ _ g ty cs (0, 0) _ hp hb hu hd hi) hdf hR

def Geo.rgsM (g : Geo) : List Rg := if g.may = true then g.rgs else []
def noRg : Rg := ⟨0, 0, 0, 1⟩
def findR (l : List Rg) (k : Int) : Rg := (l.find? fun r => decide (r.kind = k)).getD noRg
abbrev rgV (r : Rg) : Value := .agg #[.int .i64 r.first, .int .i64 r.many, .int .i8 r.kind, .int .i64 r.per]

theorem find_at {l : List Rg} {k : Int} {j : Nat} (hj : j < l.length) (hk : l[j].kind = k) (hn : ∀ t (h : t < l.length), t < j → l[t].kind ≠ k) : findR l k = l[j] := by
  unfold findR
  have : l.find? (fun r => decide (r.kind = k)) = some l[j] := by
    rw [List.find?_eq_some_iff_getElem]
    refine ⟨by simp [hk], j, hj, rfl, fun t ht => ?_⟩
    have := hn t (by omega) ht
    simp [this]
  rw [this]; rfl
theorem find_none {l : List Rg} {k : Int} (hn : ∀ t (h : t < l.length), l[t].kind ≠ k) : findR l k = noRg := by
  unfold findR
  have : l.find? (fun r => decide (r.kind = k)) = none := by
    rw [List.find?_eq_none]
    intro r hr
    obtain ⟨t, ht, rfl⟩ := List.getElem_of_mem hr
    simp [hn t ht]
  rw [this]; rfl
/-- the four cells of element j of a slice of regions, in the walk's spelling -/
theorem reads_rg {w : World} {B : Nat} {A : Option Addr} {l : List Rg} (h : Reads w B 4 A l.length (rcells l)) {j : Nat} (hj : j < l.length) :
    ∃ ad, A = some ad ∧ ad.block < B ∧ w.cell? (ad.add (j * 4)) = some (.int .i64 l[j].first) ∧ w.cell? ⟨(ad.add (j * 4)).block, (ad.add (j * 4)).off + 1, none⟩ = some (.int .i64 l[j].many) ∧
      w.cell? ⟨(ad.add (j * 4)).block, (ad.add (j * 4)).off + 2, none⟩ = some (.int .i8 l[j].kind) ∧ w.cell? ⟨(ad.add (j * 4)).block, (ad.add (j * 4)).off + 3, none⟩ = some (.int .i64 l[j].per) := by
  obtain ⟨ad, rfl, hb, hc⟩ := h.2 (by omega)
  obtain ⟨h0, h1, h2, h3⟩ := rcells_get l j hj
  have e : ∀ t, 0 < t → ad.add (j * 4 + t) = ⟨(ad.add (j * 4)).block, (ad.add (j * 4)).off + t, none⟩ := fun t ht => by
    rw [← add_of_add]
    show (ad.add (j * 4)).add t = _
    generalize ad.add (j * 4) = z
    unfold Addr.add
    rw [if_neg (by omega)]
  exact ⟨ad, rfl, hb, hc _ _ h0, by rw [← e 1 (by omega)]; exact hc _ _ h1, by rw [← e 2 (by omega)]; exact hc _ _ h2, by rw [← e 3 (by omega)]; exact hc _ _ h3⟩

set_option maxHeartbeats 2000000 in
set_option maxRecDepth 100000 in
theorem find_any (g : Geo) (k : Int) (w : World) (hw1 : -9223372036854775808 ≤ g.wait) (hw2 : g.wait ≤ 9223372036854775807) :
    Calls Try.prog 62 #[g.v, .int .i8 k] w fun e w' => e = .returned (rgV (findR g.rgsM k)) ∧ Below w.heap.size w w' := by
  have hreg := fun w => regions_any g w hw1 hw2
  have hrp : ∀ w e w', RgsPost w g e w' ↔ ∃ v, e = .returned v ∧ w'.ownsRow (w.heap.size + 1) 117 4 v g.rgsM.length (rcells g.rgsM) ∧ Below w.heap.size w w' := fun w e w' => Iff.rfl
  have hlen : g.rgsM.length ≤ 6 := by unfold Geo.rgsM; split <;> simp [Geo.rgs]
  have hfat := fun j => @find_at g.rgsM k j
  have hfno := @find_none g.rgsM k
  obtain ⟨n, s, b, p, jj, l, le, wt⟩ := g
  dsimp only [Geo.v] at *
  generalize Geo.rgsM ⟨n, s, b, p, jj, l, le, wt⟩ = rl at *
  have HREG := Lib.hid hreg; clear hreg
  have HRP := Lib.hid hrp; clear hrp
  have HAT := Lib.hid hfat; clear hfat
  have HNO := Lib.hid hfno; clear hfno
  go_enter Try.func62, Try.ntmps62
  go_wp2_with fail
  refine (HREG.out _).mono ?_
  intro e w1 hpost
  rw [HRP.out] at hpost
  obtain ⟨v, rfl, hown, hB1⟩ := hpost
  have hres : Blk w1 (w.heap.size + 1) 117 #[.int .i64 0, .int .i64 0, .int .i8 0, .int .i64 0] := by
    have h := Blk.new (w.alloc (Obj.cells #[.int .i64 n, .int .i64 s, .int .i64 b, .int .i64 p, .int .i64 jj, .int .i64 l, .int .i64 le, .int .i64 wt] 23)) 117 #[.int .i64 0, .int .i64 0, .int .i8 0, .int .i64 0]
    rw [show (w.alloc (Obj.cells #[.int .i64 n, .int .i64 s, .int .i64 b, .int .i64 p, .int .i64 jj, .int .i64 l, .int .i64 le, .int .i64 wt] 23)).heap.size = w.heap.size + 1 by simp] at h
    exact h.below hB1 (by simp)
  have hB := below_step (below2 w _ _) hB1 (by simp; omega)
  obtain ⟨A, c, rfl, -, -, hr⟩ := own_reads hown
  have HR := Lib.hid hr; clear hr hown hB1
  have HRES := Lib.hid hres; clear hres
  have HB := Lib.hid hB; clear hB
  go_wp2_with fail
  go_loopg [10] rl.length (fun gk i wr => ∃ jx : Nat, jx ≤ rl.length ∧ gk = rl.length - jx ∧ i = .int .i64 jx ∧ (∀ t (h : t < rl.length), t < jx → rl[t].kind ≠ k) ∧ Below w1.heap.size w1 wr)
  case atStart => exact ⟨0, by omega, rfl, rfl, fun t _ h => absurd h (by omega), Below.refl _ _⟩
  case round =>
    obtain ⟨jx, hj, rfl, rfl, hno, hBr⟩ := hrel
    have HN := Lib.hid hno; clear hno
    have hres2 := HRES.out.below hBr HRES.out.lt
    have hB2 := below_step HB.out hBr HB.out.size
    have hltr := hres2.lt
    by_cases hlt : jx < rl.length
    · obtain ⟨ad, rfl, had, x0, x1, x2, x3⟩ := reads_rg (HR.out.below hBr) hlt
      have hat := HAT.out jx hlt
      obtain ⟨r, hrr⟩ : ∃ r, rl[jx] = r := ⟨_, rfl⟩
      rw [hrr] at x0 x1 x2 x3 hat
      have HRR := Lib.hid hrr; clear hrr
      obtain ⟨rf, rm, rk, rp⟩ := r
      dsimp only at x0 x1 x2 x3 hat
      have HHAT := Lib.hid hat; clear hat
      have HB2 := Lib.hid hB2; clear hB2
      have HBR := Lib.hid hBr; clear hBr
      by_cases hk : rk = k
      · have hkb : (rk == k) = true := by simp [hk]
        obtain ⟨q0, q1, q2, q3⟩ := hres2.cells4
        obtain ⟨f0, f1, f2, f3⟩ := hres2.frozen4
        have hfr := HHAT.out hk HN.out
        have HFR := Lib.hid hfr; clear hfr hk
        have HRS := Lib.hid hres2; clear hres2
        go_wp2_with fail
        refine ret_blk (cs := #[.int .i64 rf, .int .i64 rm, .int .i8 rk, .int .i64 rp]) rfl rfl (by exact ((((HRS.out.set_ 0 _).set_ 1 _).set_ 2 _).set_ 3 _).alloc _) Try.underlying117 rfl (by kernel_rfl) rfl ?_
        rw [HFR.out]
        exact ⟨rfl, ((((HB2.out.setCell (by simp) _).setCell (by simp) _).setCell (by simp) _).setCell (by simp) _).alloc (by have := HB2.out.size; simpa [World.setCell] using this) _⟩
      · have hkb : (rk == k) = false := by simp [hk]
        clear hres2
        have HK := Lib.hid hk; clear hk
        go_wp2_with fail
        go_roundg (rl.length - (jx + 1))
        case rel =>
          refine ⟨jx + 1, by omega, rfl, by go_num, fun t h ht => ?_, HBR.out.alloc HBR.out.size _⟩
          rcases Nat.lt_or_ge t jx with h1 | h1
          · exact HN.out t h h1
          · obtain rfl : t = jx := by omega
            rw [HRR.out]; exact HK.out
        case measure => omega
    · obtain ⟨q0, q1, q2, q3⟩ := hres2.cells4
      obtain ⟨f0, f1, f2, f3⟩ := hres2.frozen4
      have hfr := HNO.out fun t h => HN.out t h (by omega)
      have HFR := Lib.hid hfr; clear hfr
      have HRS := Lib.hid hres2; clear hres2
      have HB2 := Lib.hid hB2; clear hB2 hBr
      go_wp2_with fail
      refine ret_blk (cs := #[.int .i64 0, .int .i64 0, .int .i8 0, .int .i64 1]) rfl rfl (by exact (((HRS.out.set_ 0 _).set_ 1 _).set_ 2 _).set_ 3 _) Try.underlying117 rfl (by kernel_rfl) rfl ?_
      rw [HFR.out]
      exact ⟨rfl, (((HB2.out.setCell (by simp) _).setCell (by simp) _).setCell (by simp) _).setCell (by simp) _⟩

set_option maxHeartbeats 400000 in
theorem at_any (f m k : Int) (w : World) (h1 : -1000000000 ≤ f) (h2 : f ≤ 1000000000) (h4 : m ≤ 1000000000) :
    Calls Try.prog 63 #[.agg #[.int .i64 f, .int .i64 m], .int .i64 k] w fun e w' => e = .returned (.int .i64 (if 0 ≤ k ∧ k < m then f + k else -1)) ∧ Below w.heap.size w w' := by
  by_cases hk : 0 ≤ k ∧ k < m
  · rw [if_pos hk]
    obtain ⟨h5, h6⟩ := hk
    go_enter Try.func63, Try.ntmps63
    go_wp2
    go_ret
    exact ⟨rfl, (Below.refl _ _).alloc (Nat.le_refl _) _⟩
  · rw [if_neg hk]
    by_cases h5 : 0 ≤ k
    · have h6 : m ≤ k := by omega
      go_enter Try.func63, Try.ntmps63
      go_wp2
      go_ret
      exact ⟨rfl, (Below.refl _ _).alloc (Nat.le_refl _) _⟩
    · have h6 : k < 0 := by omega
      clear hk
      go_enter Try.func63, Try.ntmps63
      go_wp2
      go_ret
      exact ⟨rfl, (Below.refl _ _).alloc (Nat.le_refl _) _⟩

/-- what a region of a geometry may be -/
theorem find_bd (g : Geo) (k : Int) : 0 ≤ (findR g.rgsM k).first ∧ (findR g.rgsM k).first ≤ 10000 ∧ 0 ≤ (findR g.rgsM k).many ∧ (findR g.rgsM k).many ≤ 10000 ∧ 1 ≤ (findR g.rgsM k).per ∧ (findR g.rgsM k).per ≤ 100 := by
  have key : ∀ r ∈ g.rgsM, 0 ≤ r.first ∧ r.first ≤ 10000 ∧ 0 ≤ r.many ∧ r.many ≤ 10000 ∧ 1 ≤ r.per ∧ r.per ≤ 100 := by
    intro r hr
    unfold Geo.rgsM at hr
    split at hr
    · rename_i hm
      have hok := Geo.may_ok hm
      have := hok.sj
      have := hok.bp
      obtain ⟨k1, k2, k3, k4, k5, k6, k7, k8, k9, k10, k11, k12, k13, k14, k15⟩ := hok
      simp only [Geo.rgs, List.mem_cons, List.not_mem_nil, or_false] at hr
      rcases hr with rfl | rfl | rfl | rfl | rfl | rfl <;> dsimp only <;> omega
    · cases hr
  unfold findR
  cases hf : g.rgsM.find? (fun r => decide (r.kind = k)) with
  | none => simp [noRg]
  | some r => exact key r (List.mem_of_find?_eq_some hf)

set_option maxHeartbeats 1000000 in
set_option maxRecDepth 100000 in
theorem of_any (g : Geo) (kd i k : Int) (w : World) (hw1 : -9223372036854775808 ≤ g.wait) (hw2 : g.wait ≤ 9223372036854775807) :
    Calls Try.prog 56 #[g.v, .int .i8 kd, .int .i64 i, .int .i64 k] w fun e w' => e = .returned (.int .i64 (ofS (findR g.rgsM kd) i k)) ∧ Below w.heap.size w w' := by
  have hfi := fun w => find_any g kd w hw1 hw2
  have hbd := find_bd g kd
  generalize findR g.rgsM kd = r at *
  obtain ⟨rf, rm, rk, rp⟩ := r
  obtain ⟨n, s, b, p, jj, l, le, wt⟩ := g
  dsimp only [Geo.v, rgV] at *
  obtain ⟨b1, b2, b3, b4, b5, b6⟩ := hbd
  have hq0 : 0 ≤ rm / rp := Int.ediv_nonneg (by omega) (by omega)
  have hq1 : rm / rp ≤ rm := Int.ediv_le_self _ (by omega)
  have hof : ofS ⟨rf, rm, rk, rp⟩ i k = if 0 ≤ i ∧ i < rm / rp ∧ 0 ≤ k ∧ k < rp then rf + (i * rp + k) else -1 := rfl
  rw [hof]
  clear hof
  obtain ⟨z, hz⟩ : ∃ z, z = if 0 ≤ i ∧ i < rm / rp ∧ 0 ≤ k ∧ k < rp then rf + (i * rp + k) else -1 := ⟨_, rfl⟩
  rw [← hz]
  have HZ := Lib.hid hz; clear hz
  have HF := Lib.hid hfi; clear hfi
  go_enter Try.func56, Try.ntmps56
  go_wp2_with fail
  refine (HF.out _).mono ?_
  rintro e w1 ⟨rfl, hB1⟩
  have hB := below_step ((Below.refl _ _).alloc (Nat.le_refl _) _) hB1 (by simp)
  have HB := Lib.hid hB; clear hB hB1
  by_cases hc : 0 ≤ i ∧ i < rm / rp ∧ 0 ≤ k ∧ k < rp
  · have hz2 : z = rf + (i * rp + k) := by rw [HZ.out, if_pos hc]
    have HZ2 := Lib.hid hz2; clear hz2 HZ
    obtain ⟨c1, c2, c3, c4⟩ := hc
    have hm0 : 0 ≤ i * rp := Int.mul_nonneg c1 (by omega)
    have hm1 : i * rp + k < rm := by
      have h1 : (i + 1) * rp ≤ rm / rp * rp := Int.mul_le_mul_of_nonneg_right (by omega) (by omega)
      have h2 := Int.ediv_mul_le rm (b := rp) (by omega)
      have h3 : (i + 1) * rp = i * rp + rp := by rw [Int.add_mul]; omega
      omega
    go_wp2_with fail
    refine (at_any rf rm (i * rp + k) _ (by omega) (by omega) (by omega)).mono ?_
    rw [if_pos ⟨by omega, hm1⟩]
    rintro e w2 ⟨rfl, hB2⟩
    go_wp2_with fail
    go_ret
    exact ⟨by rw [HZ2.out]; rfl, below_step (HB.out.alloc HB.out.size _) hB2 (by have := HB.out.size; simp; omega)⟩
  · have hz2 : z = -1 := by rw [HZ.out, if_neg hc]
    have HZ2 := Lib.hid hz2; clear hz2 HZ
    by_cases c1 : 0 ≤ i
    · by_cases c2 : i < rm / rp
      · by_cases c3 : 0 ≤ k
        · have c4 : rp ≤ k := by omega
          clear hc
          go_wp2_with fail
          go_ret
          exact ⟨by rw [HZ2.out]; rfl, HB.out.alloc HB.out.size _⟩
        · have c4 : k < 0 := by omega
          clear hc
          go_wp2_with fail
          go_ret
          exact ⟨by rw [HZ2.out]; rfl, HB.out.alloc HB.out.size _⟩
      · have c4 : rm / rp ≤ i := by omega
        clear hc
        go_wp2_with fail
        go_ret
        exact ⟨by rw [HZ2.out]; rfl, HB.out.alloc HB.out.size _⟩
    · have c4 : i < 0 := by omega
      clear hc
      go_wp2_with fail
      go_ret
      exact ⟨by rw [HZ2.out]; rfl, HB.out.alloc HB.out.size _⟩
end Go.Proofs.Ytfonaceldfjneaa
