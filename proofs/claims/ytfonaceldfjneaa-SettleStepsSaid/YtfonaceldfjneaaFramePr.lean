/- Opening a slice of blocks that is an argument. -/
import Derived.Test.YtfonaceldfjneaaFrameLook
import Derived.Test.YtfonaceldfjneaaBufPlain
namespace Go.Proofs.Ytfonaceldfjneaa
open Go.ChangeShapes Go.WideShapes Go.ChangeAt Go.RowKit Go.Joins Go.Deep

def IsPrs (W : World) (A : Option Addr) (zs : List Pr) (c : Nat) : Prop :=
  Reads W W.heap.size 2 A zs.length (prCells zs) ∧ (∀ p ∈ zs, (Lit.int .i64 p.n).wf = true ∧ p.t.size ≤ maxLen) ∧ zs.length ≤ c ∧ c ≤ maxLen

set_option maxRecDepth 100000 in
theorem open_blocks_arg {H : Type} {enc : TypeId × Value → H} {w : World} {base : Nat} {held : Bool} {r : Reach} {b0 : Nat} {v : Value} {d : DataW H} {p : List MemPlace}
    (hv : Value.okWide Try.prog w r b0 24 v) (h : DataW.Trod enc Try.prog w base (fun _ => true) held 24 v d p) :
    ∃ (A : Option Addr) (zs : List Pr) (c : Nat), v = .slice A zs.length c ∧ IsPrs w A zs c := by
  obtain ⟨a, len, cap, rfl⟩ := okWide_slice Try.underlying24 hv
  obtain ⟨fuel, hf⟩ := h
  rcases open_slice_fields Try.underlying24 Try.underlying68 (by kernel_rfl) (by kernel_rfl) hf with ⟨hcs, _⟩ | ⟨x, l, c, m, D, Pl, hcs, _, hl, hm, hmm, _, hi⟩
  · simp [Value.cells] at hcs
    obtain ⟨rfl, rfl, rfl⟩ := hcs
    exact ⟨none, [], 0, rfl, Reads.none_, by simp, by simp, by unfold maxLen; omega⟩
  · simp [Value.cells] at hcs
    obtain ⟨rfl, rfl, rfl⟩ := hcs
    simp only [if_true] at hmm
    have key : ∀ i, i < len → ∃ q : Pr, w.cell? (x.add (i * 2)) = some (.int .i64 q.n) ∧ w.cell? (x.add (i * 2 + 1)) = some (.string q.t) ∧ (Lit.int .i64 q.n).wf = true ∧ q.t.size ≤ maxLen := by
      intro i hil
      obtain ⟨ys, n, _, _, _, hfl⟩ := hi i (by omega)
      obtain ⟨u0, y0, hc0, _, ht0⟩ := hfl 0 _ rfl
      obtain ⟨u1, y1, hc1, _, ht1⟩ := hfl 1 _ rfl
      obtain ⟨n0, e0, _, hw0⟩ := DataW.trod_int Try.underlying3 ht0
      obtain ⟨b1, e1, _, hw1⟩ := DataW.trod_string Try.underlying9 ht1
      injection e0 with e0
      injection e1 with e1
      subst e0 e1
      exact ⟨⟨n0, b1⟩, hc0, hc1, hw0, hw1⟩
    obtain ⟨zs, hzl, hz⟩ := exists_list len _ key
    refine ⟨some x, zs, cap, by rw [hzl], ⟨by rw [prCells_length], fun hn => ⟨x, rfl, ?_, fun j u hu => ?_⟩⟩, ?_, by omega, hm⟩
    · obtain ⟨q, hq, _⟩ := key 0 (by omega)
      have := World.block_lt_of_cell? _ _ hq
      rwa [block_of_add] at this
    · have hj : j < zs.length * 2 := by
        rcases Nat.lt_or_ge j (zs.length * 2) with h1 | h1
        · exact h1
        · rw [List.getElem?_eq_none (by rw [prCells_length]; exact h1)] at hu; cases hu
      have hi2 : j / 2 < zs.length := by omega
      have hzz := hz (j / 2) zs[j / 2] (List.getElem?_eq_getElem hi2)
      have hg := prCells_get zs (j / 2) hi2
      rcases Nat.mod_two_eq_zero_or_one j with h2 | h2
      · have e : j = j / 2 * 2 := by omega
        rw [e, hg.1] at hu
        rw [e, hzz.1, ← hu]
      · have e : j = j / 2 * 2 + 1 := by omega
        rw [e, hg.2] at hu
        rw [e, hzz.2.1, ← hu]
    · intro q hq
      obtain ⟨i, hil, rfl⟩ := List.getElem_of_mem hq
      exact (hz i _ (List.getElem?_eq_getElem hil)).2.2
end Go.Proofs.Ytfonaceldfjneaa
