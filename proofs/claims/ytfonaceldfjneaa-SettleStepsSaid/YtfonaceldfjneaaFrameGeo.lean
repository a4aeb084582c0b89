/- Opening a geometry that is an argument. -/
import Derived.Test.YtfonaceldfjneaaChecked
import Derived.Test.YtfonaceldfjneaaFrame
namespace Go.Proofs.Ytfonaceldfjneaa
open Go.ChangeShapes Go.WideShapes Go.ChangeAt Go.RowKit Go.Joins Go.Deep

set_option maxRecDepth 100000 in
theorem open_api_Geo_arg {H : Type} {enc : TypeId × Value → H} {w : World} {base : Nat} {spare : Nat → Bool} {held : Bool} {r : Reach} {b0 : Nat} {v : Value} {d : DataW H} {p : List MemPlace}
    (hv : Value.okWide Try.prog w r b0 23 v) (h : DataW.Trod enc Try.prog w base spare held 23 v d p) :
    ∃ a0 a1 a2 a3 a4 a5 a6 a7 : Int, v = .agg #[.int .i64 a0, .int .i64 a1, .int .i64 a2, .int .i64 a3, .int .i64 a4, .int .i64 a5, .int .i64 a6, .int .i64 a7] ∧
      (Lit.int .i64 a0).wf = true ∧ (Lit.int .i64 a1).wf = true ∧ (Lit.int .i64 a2).wf = true ∧ (Lit.int .i64 a3).wf = true ∧ (Lit.int .i64 a4).wf = true ∧ (Lit.int .i64 a5).wf = true ∧ (Lit.int .i64 a6).wf = true ∧ (Lit.int .i64 a7).wf = true := by
  obtain ⟨vs, n, rfl, hlen, hf⟩ := open_struct_arg Try.underlying23 (by kernel_rfl) (by kernel_rfl) hv h
  match vs, hlen, hf with
  | [c0, c1, c2, c3, c4, c5, c6, c7], _, hf =>
    obtain ⟨u, y, hu, ht⟩ := hf 0 _ rfl
    obtain ⟨a0, e, _, w0⟩ := DataW.trod_int Try.underlying3 ht
    injection e with e
    subst e
    simp at hu
    subst hu
    obtain ⟨u, y, hu, ht⟩ := hf 1 _ rfl
    obtain ⟨a1, e, _, w1⟩ := DataW.trod_int Try.underlying3 ht
    injection e with e
    subst e
    simp at hu
    subst hu
    obtain ⟨u, y, hu, ht⟩ := hf 2 _ rfl
    obtain ⟨a2, e, _, w2⟩ := DataW.trod_int Try.underlying3 ht
    injection e with e
    subst e
    simp at hu
    subst hu
    obtain ⟨u, y, hu, ht⟩ := hf 3 _ rfl
    obtain ⟨a3, e, _, w3⟩ := DataW.trod_int Try.underlying3 ht
    injection e with e
    subst e
    simp at hu
    subst hu
    obtain ⟨u, y, hu, ht⟩ := hf 4 _ rfl
    obtain ⟨a4, e, _, w4⟩ := DataW.trod_int Try.underlying3 ht
    injection e with e
    subst e
    simp at hu
    subst hu
    obtain ⟨u, y, hu, ht⟩ := hf 5 _ rfl
    obtain ⟨a5, e, _, w5⟩ := DataW.trod_int Try.underlying3 ht
    injection e with e
    subst e
    simp at hu
    subst hu
    obtain ⟨u, y, hu, ht⟩ := hf 6 _ rfl
    obtain ⟨a6, e, _, w6⟩ := DataW.trod_int Try.underlying3 ht
    injection e with e
    subst e
    simp at hu
    subst hu
    obtain ⟨u, y, hu, ht⟩ := hf 7 _ rfl
    obtain ⟨a7, e, _, w7⟩ := DataW.trod_int Try.underlying3 ht
    injection e with e
    subst e
    simp at hu
    subst hu
    exact ⟨a0, a1, a2, a3, a4, a5, a6, a7, rfl, w0, w1, w2, w3, w4, w5, w6, w7⟩
end Go.Proofs.Ytfonaceldfjneaa
