/- The walks of geo: end, regions$1, regions. -/
import Derived.Test.YtfonaceldfjneaaMay
namespace Go.Proofs.Ytfonaceldfjneaa
open Go.RowKit

theorem end_any (f m : Int) (w : World) (h1 : -1000000000 ≤ f) (h2 : f ≤ 1000000000) (h3 : -1000000000 ≤ m) (h4 : m ≤ 1000000000) :
    Calls Try.prog 74 #[.agg #[.int .i64 f, .int .i64 m]] w fun e w' => e = .returned (.int .i64 (f + m)) ∧ Below w.heap.size w w' := by
  go_enter Try.func74, Try.ntmps74
  go_wp2
  go_ret
  exact ⟨rfl, (Below.refl _ _).alloc (Nat.le_refl _) _⟩

def rcell (r : Rg) : List Value := [.int .i64 r.first, .int .i64 r.many, .int .i8 r.kind, .int .i64 r.per]
def rcells (l : List Rg) : List Value := l.flatMap rcell
theorem rcells_length (l : List Rg) : (rcells l).length = l.length * 4 := by
  induction l with
  | nil => rfl
  | cons r l ih => simp only [rcells, rcell, List.flatMap_cons, List.length_append, List.length_cons, List.length_nil] at ih ⊢; omega
theorem rcells_snoc (l : List Rg) (r : Rg) : rcells (l ++ [r]) = rcells l ++ rcell r := by simp [rcells]
theorem rcells_get (l : List Rg) (i : Nat) (h : i < l.length) : (rcells l)[i * 4]? = some (.int .i64 l[i].first) ∧ (rcells l)[i * 4 + 1]? = some (.int .i64 l[i].many) ∧ (rcells l)[i * 4 + 2]? = some (.int .i8 l[i].kind) ∧ (rcells l)[i * 4 + 3]? = some (.int .i64 l[i].per) := by
  induction l generalizing i with
  | nil => simp at h
  | cons p l ih =>
    cases i with
    | zero => simp [rcells, rcell]
    | succ i =>
      have := ih i (by simpa using h)
      simp only [rcells, List.flatMap_cons, rcell] at this ⊢
      rw [show (i + 1) * 4 = i * 4 + 4 by omega, show i * 4 + 4 + 1 = i * 4 + 1 + 4 by omega, show i * 4 + 4 + 2 = i * 4 + 2 + 4 by omega, show i * 4 + 4 + 3 = i * 4 + 3 + 4 by omega]
      simpa using this
theorem rg_info : (Try.prog.info? 117).map (fun i => (i.zero, i.size, i.bytes)) = some (some (.agg #[.int .i64 0, .int .i64 0, .int .i8 0, .int .i64 0]), 4, 32) := by kernel_rfl

theorem rcell_one (r : Rg) : ∀ u ∈ rcell r, u.oneCell' = true := by
  intro u hu
  simp only [rcell, List.mem_cons, List.not_mem_nil, or_false] at hu
  rcases hu with rfl | rfl | rfl | rfl <;> rfl
theorem blk_news {w : World} {g : Nat} {t : TypeId} {cs : Array Value} {xs : List Value} (h : Blk w g t cs) (hx : cs.toList = xs) : ∀ j u, xs[j]? = some u → w.cell? ((⟨g, 0, none⟩ : Addr).add j) = some u := by
  subst hx
  intro j u hu
  have : (⟨g, 0, none⟩ : Addr).add j = ⟨g, j, none⟩ := by unfold Addr.add; split <;> simp_all
  rw [this, h.cell j]
  simpa using hu

set_option maxHeartbeats 1000000 in
set_option maxRecDepth 100000 in
theorem rput_any (k m p a : Int) (ga gl B0 B : Nat) (v : Value) (rs : List Rg) (w : World) (hm0 : 0 ≤ m) (hm1 : m ≤ 1000) (hp0 : 0 ≤ p) (hp1 : p ≤ 1000) (ha0 : 0 ≤ a) (ha1 : a ≤ 100000000) (hrl : rs.length ≤ 100)
    (hA : Blk w ga 3 #[.int .i64 a]) (hL : Blk w gl 122 #[v]) (hown : w.ownsRow B 117 4 v rs.length (rcells rs)) (h1 : B0 ≤ ga) (h2 : B0 ≤ gl) (h3 : B0 ≤ B) (h4 : B ≤ w.heap.size) :
    Calls Try.prog 73 #[.int .i8 k, .int .i64 m, .int .i64 p, .pointer (some ⟨ga, 0, none⟩), .pointer (some ⟨gl, 0, none⟩)] w fun e w' => e = .returned (.tuple #[]) ∧
      ∃ v', Blk w' ga 3 #[.int .i64 (a + m * p)] ∧ Blk w' gl 122 #[v'] ∧ w'.ownsRow B 117 4 v' (rs ++ [Rg.mk a (m * p) k p]).length (rcells (rs ++ [Rg.mk a (m * p) k p])) ∧ Below B0 w w' ∧ w.heap.size ≤ w'.heap.size := by
  obtain ⟨i0, hi0, hz0, hz1, hz2⟩ := info_parts rg_info
  obtain ⟨A1, c1, rfl, -, -, -⟩ := own_reads hown
  have hmp := mul_bd hm0 hm1 hp0 hp1
  obtain ⟨q, hq⟩ : ∃ q, q = m * p := ⟨_, rfl⟩
  have hq' : m * p = q := hq.symm
  rw [← hq] at hmp ⊢
  have HQ := Lib.hid hq; clear hq
  have ca : w.cell? ⟨ga, 0, none⟩ = some (.int .i64 a) := hA.cell 0
  have fa := hA.frozen 0
  have cl : w.cell? ⟨gl, 0, none⟩ = some (.slice A1 rs.length c1) := hL.cell 0
  have fl := hL.frozen 0
  have hal := hA.lt
  have hll := hL.lt
  have hne : ga ≠ gl := hA.ne_ hL (by decide)
  have HA := Lib.hid hA; clear hA
  have HL := Lib.hid hL; clear hL
  have HO := Lib.hid hown; clear hown
  have HNE := Lib.hid hne; clear hne
  go_enter Try.func73, Try.ntmps73
  have hnb : Blk ((w.alloc (Obj.cells #[.int .i64 a, .int .i64 q, .int .i8 k, .int .i64 p] 117)).alloc (Obj.cells #[.int .i64 a, .int .i64 q, .int .i8 k, .int .i64 p] 117)) (w.heap.size + 1) 117 #[.int .i64 a, .int .i64 q, .int .i8 k, .int .i64 p] := by
    have h := Blk.new (w.alloc (Obj.cells #[.int .i64 a, .int .i64 q, .int .i8 k, .int .i64 p] 117)) 117 #[.int .i64 a, .int .i64 q, .int .i8 k, .int .i64 p]
    rwa [show (w.alloc (Obj.cells #[.int .i64 a, .int .i64 q, .int .i8 k, .int .i64 p] 117)).heap.size = w.heap.size + 1 by simp] at h
  have HNB := Lib.hid hnb; clear hnb
  go_wp2_with (first
    | (at_builtin; refine wpList_append_own _ rfl (.tmp 17) (.tmp 19) 122 rfl B 117 i0 _ 4 32 Try.underlying122 hi0 hz0 hz1 hz2 rfl (by decide) (.slice A1 rs.length c1) rs.length (rcells rs) (by rfl) (by exact (HO.out.alloc _).alloc _) ⟨w.heap.size + 1, 0, none⟩ 1 1 (rcell (Rg.mk a q k p)) (by rfl) (by rfl) (by exact blk_news HNB.out rfl) (rcell_one _) (by unfold maxLen; omega) (by omega) (by simp; omega) ?_; intro v1 w1 hown1 hg1 _; (have hne1 : (Value.slice A1 rs.length c1).ownBlock ≠ some gl := own_blk_ne HO.out HL.out (by decide)); (have hne2 : (Value.slice A1 rs.length c1).ownBlock ≠ some ga := own_blk_ne HO.out HA.out (by decide)); (have hA1 := ((HA.out.alloc _).alloc _).grown hg1 (Ne.symm hne2)); (have hL1 := ((HL.out.alloc _).alloc _).grown hg1 (Ne.symm hne1)); (have hR1 := ((Blk.new w 117 #[.int .i64 a, .int .i64 q, .int .i8 k, .int .i64 p]).alloc (Obj.cells #[.int .i64 a, .int .i64 q, .int .i8 k, .int .i64 p] 117))); (have hlt1 : ∀ kk, (Value.slice A1 rs.length c1).ownBlock = some kk → kk < w.heap.size := fun kk e => (HO.out.lt kk e).2); (have hR1' := hR1.grown hg1 (fun e => by have := hlt1 _ e.symm; omega)); obtain ⟨A2, c2, rfl, -, -, -⟩ := own_reads hown1; have ca' := hA1.cell 0; have fa' := hA1.frozen 0; have cl' := hL1.cell 0; have fl' := hL1.frozen 0; obtain ⟨r0, r1, r2, r3⟩ := hR1'.cells4; have HA1 := Lib.hid hA1; have HL1 := Lib.hid hL1; have HO1 := Lib.hid hown1; have HG1 := Lib.hid hg1; clear hA1 hL1 hown1 hg1 hR1 hR1' hlt1 hne1 hne2 ca fa cl fl))
  refine (end_any a q _ (by omega) (by omega) (by omega) (by omega)).mono ?_
  rintro e w3 ⟨rfl, hB3⟩
  clear ca' fa' cl' fl' r0 r1 r2 r3
  have hA2 := HA1.out.far (p := ⟨gl, 0, none⟩) HNE.out (.slice A2 (rs.length + 1) c2)
  have hL2 := HL1.out.set_ 0 (.slice A2 (rs.length + 1) c2)
  have hO2 := ownsRow_setCell_other HO1.out (a := ⟨gl, 0, none⟩) (own_blk_ne HO1.out HL1.out (by decide)) (.slice A2 (rs.length + 1) c2)
  have hA3 := hA2.below hB3 hA2.lt
  have hL3 := hL2.below hB3 hL2.lt
  have hO3 := own_below hO2 hB3
  have hBA : Below B0 w w3 := below_step (((((Below.refl _ _).alloc (by omega) _).alloc (by simp; omega) _).grown HG1.out (by simp; omega) (fun kk e => Nat.le_trans h3 (HO.out.lt kk e).1)).setCell h2 _) hB3 (by have := HL1.out.lt; simp [World.setCell]; omega)
  have ca := hA3.cell 0
  have fa := hA3.frozen 0
  have HA3 := Lib.hid hA3
  have HL3 := Lib.hid hL3
  have HO3 := Lib.hid hO3
  have HBA := Lib.hid hBA
  clear hA2 hL2 hO2 hA3 hL3 hO3 hBA hB3
  go_wp2_with fail
  go_end0
  refine ⟨rfl, .slice A2 (rs.length + 1) c2, HA3.out.set_ 0 _, HL3.out.far (p := ⟨ga, 0, none⟩) (Ne.symm HNE.out) _, ?_, HBA.out.setCell h1 _, by have := HBA.out.size; simpa [World.setCell] using this⟩
  have h5 := ownsRow_setCell_other HO3.out (a := ⟨ga, 0, none⟩) (own_blk_ne HO3.out HA3.out (by decide)) (.int .i64 (a + q))
  rw [rcells_snoc, List.length_append]
  exact h5
end Go.Proofs.Ytfonaceldfjneaa
